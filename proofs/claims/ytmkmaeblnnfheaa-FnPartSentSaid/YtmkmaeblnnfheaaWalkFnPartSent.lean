/- The walk of the law FnPartSent. -/
import Derived.Test.YtmkmaeblnnfheaaLawKit
import Derived.Test.YtmkmaeblnnfheaaMg6
import Derived.Test.YtmkmaeblnnfheaaLawKit2
import Derived.Test.YtmkmaeblnnfheaaLawKit3
namespace Go.Proofs.Ytmkmaeblnnfheaa
open Go.RowKit
attribute [local irreducible] Go.wpQuiet

set_option linter.unusedVariables false in
set_option maxRecDepth 100000 in
set_option maxHeartbeats 8000000 in
theorem walkFnPartSent (w : World) (a : Option Addr) (len cap : Nat) (zs : List Int) (h : IsRow .u8 w a len cap zs) :
    Calls Try.prog 7 #[.slice a len cap] w fun e w' => e = .returned (.bool true) ∧ Below w.heap.size w w' := by
  by_cases hllen : 1048576 < len
  · go_enter Try.func7, Try.ntmps7
    go_wp2
    go_ret
    exact ⟨rfl, Below.refl _ _⟩
  have BEL : Below w.heap.size w w := Below.refl _ _
  go_enter Try.func7, Try.ntmps7
  go_wp2_with fail
  with_reducible refine (drawPart_any _ a len cap zs h).mono ?_
  rintro e w1 ⟨d, f, l, n', LA, LB, A, ca, B, cb, _, rfl, ⟨o, D, g, rfl, hD⟩, ⟨hd, hA, hB⟩, hI, hJ, hb⟩
  have hsz1 := hb.size
  have BEL := BEL.trans (hb.mono BEL.size)
  have I0 := hid_of (In2.of hI hJ)
  clear hI hJ hb
  clear h
  obtain ⟨b, hx⟩ : ∃ b, sentOk ⟨d, f, l, n', LA, LB⟩ ⟨o, D, g⟩ = b := ⟨_, rfl⟩
  have HX := hid_of hx
  clear hx
  go_upto_region 4 with (fail)
  generalize hW : World.alloc (World.alloc w1 _) _ = w2
  have hb : Below w1.heap.size w1 w2 := by rw [← hW]; exact ba (ba (Below.refl _ _) _) _
  have I0 := hid_of (I0.out.grow hb)
  have BEL := BEL.trans (hb.mono BEL.size)
  have hsz2 : w1.heap.size + 2 ≤ w2.heap.size := by rw [← hW]; simp
  have X3 : Hid (Own6 w2 w1.heap.size d f l n' A LA.length ca B LB.length cb) := by rw [← hW]; exact hid_of ((Own6.newT _ _).alloc _)
  have X4 : Hid (Own3 w2 (w1.heap.size + 1) o D g) := by rw [← hW]; exact hid_of (Own3.newT2 _ _)
  clear hW hb
  obtain ⟨⟨c30, c31, c32, c33, c34, c35⟩, c3f⟩ := X3.out
  obtain ⟨⟨c40, c41, c42⟩, c4f⟩ := X4.out
  cases b with
  | false =>
    go_wp2_with (first | (go_at_call 28; (with_reducible refine (psent_i HX.out _ I0.out.a I0.out.b (by omega) (by omega) (by omega)).mono ?_); rintro e wn ⟨rfl, hb⟩; have X3 := hid_of (X3.out.grow hb); have X4 := hid_of (X4.out.grow hb); have I0 := hid_of (I0.out.grow hb); have BEL := BEL.trans (hb.mono BEL.size); obtain ⟨⟨c30, c31, c32, c33, c34, c35⟩, c3f⟩ := X3.out; obtain ⟨⟨c40, c41, c42⟩, c4f⟩ := X4.out; clear hb) | (go_at_call 29; (with_reducible refine (psent_s HX.out _ I0.out.a I0.out.b (by omega) (by omega) (by omega)).mono ?_); rintro e wn ⟨rfl, hb⟩; have X3 := hid_of (X3.out.grow hb); have X4 := hid_of (X4.out.grow hb); have I0 := hid_of (I0.out.grow hb); have BEL := BEL.trans (hb.mono BEL.size); obtain ⟨⟨c30, c31, c32, c33, c34, c35⟩, c3f⟩ := X3.out; obtain ⟨⟨c40, c41, c42⟩, c4f⟩ := X4.out; clear hb))
    go_ret
    exact ⟨rfl, BEL⟩
  | true =>
    obtain ⟨hs, hp⟩ := sentOk_iff.1 HX.out
    obtain ⟨⟨ho0, ho1⟩, _, hl0, hl3⟩ := hp.bd hs
    have hdat := hp.data
    have hfit := hp.fit
    have hhi := hp.hi
    have hfin := hp.fin
    have hlen := hs.len
    dsimp only at ho0 ho1 hl0 hl3 hdat hfit hhi hfin hlen
    obtain ⟨z, hz⟩ : ∃ z, Pt.last ⟨o, D, g⟩ = z := ⟨_, rfl⟩
    rw [hz] at hl0 hl3 hhi
    have HZ := hid_of hz
    clear hz hs hp
    obtain ⟨e, he⟩ : ∃ e : Int, o + (D.size : Int) = e := ⟨_, rfl⟩
    have hwr : IntKind.i64.wrap (o + (D.size : Int)) = e := by rw [he]; exact IntWalk.i64_in _ (by omega)
    have hE : ((d.extract o.toNat e.toNat).toList == D.toList) = true := by rw [show e.toNat = o.toNat + D.size from by omega, hdat]; exact beq_self_eq_true _
    have s1 : 0 ≤ e := by omega
    have s2 : e ≤ (d.size : Int) := by omega
    have s3 : o ≤ e := by omega
    clear hdat
    have hend : g = true → (e == (d.size : Int)) = true ∧ f = true := fun h => ⟨by rw [beq_iff_eq, ← he]; exact (hfin h).2, (hfin h).1⟩
    have HEND := hid_of hend
    clear hend hfin he
    cases g with
    | false =>
      go_wp2_with (first | (go_at_call 28; (with_reducible refine (psent_i HX.out _ I0.out.a I0.out.b (by omega) (by omega) (by omega)).mono ?_); rintro e wn ⟨rfl, hb⟩; have X3 := hid_of (X3.out.grow hb); have X4 := hid_of (X4.out.grow hb); have I0 := hid_of (I0.out.grow hb); have BEL := BEL.trans (hb.mono BEL.size); obtain ⟨⟨c30, c31, c32, c33, c34, c35⟩, c3f⟩ := X3.out; obtain ⟨⟨c40, c41, c42⟩, c4f⟩ := X4.out; clear hb) | (go_at_call 29; (with_reducible refine (psent_s HX.out _ I0.out.a I0.out.b (by omega) (by omega) (by omega)).mono ?_); rintro e wn ⟨rfl, hb⟩; have X3 := hid_of (X3.out.grow hb); have X4 := hid_of (X4.out.grow hb); have I0 := hid_of (I0.out.grow hb); have BEL := BEL.trans (hb.mono BEL.size); obtain ⟨⟨c30, c31, c32, c33, c34, c35⟩, c3f⟩ := X3.out; obtain ⟨⟨c40, c41, c42⟩, c4f⟩ := X4.out; clear hb))
      have uu0 := fun y => Up.cell c30 y
      have uu1 := fun y => Up.cell c31 y
      have uu2 := fun y => Up.cell c33 y
      have uu3 := fun y => Up.cell c40 y
      have uu4 := fun y => Up.cell c41 y
      have uu5 := fun y => Up.cell c42 y
      refine wp_region_up (by kernel_rfl) (by kernel_rfl) ?_
      repeat (quiet_step (first | (go_at_call 17; with_reducible exact up_of fun w' hb' => last_l HZ.out w' ⟨by omega, by omega⟩ (by omega))))
      refine wpQuiet_nil ?_
      intro w3 hb
      clear uu0 uu1 uu2 uu3 uu4 uu5
      have X3 := hid_of (X3.out.grow hb)
      have X4 := hid_of (X4.out.grow hb)
      have I0 := hid_of (I0.out.grow hb)
      have BEL := BEL.trans (hb.mono BEL.size)
      clear hb
      go_wp2_with fail
      go_ret
      exact ⟨rfl, BEL⟩
    | true =>
      obtain ⟨he1, hf⟩ := HEND.out rfl
      subst hf
      go_wp2_with (first | (go_at_call 28; (with_reducible refine (psent_i HX.out _ I0.out.a I0.out.b (by omega) (by omega) (by omega)).mono ?_); rintro e wn ⟨rfl, hb⟩; have X3 := hid_of (X3.out.grow hb); have X4 := hid_of (X4.out.grow hb); have I0 := hid_of (I0.out.grow hb); have BEL := BEL.trans (hb.mono BEL.size); obtain ⟨⟨c30, c31, c32, c33, c34, c35⟩, c3f⟩ := X3.out; obtain ⟨⟨c40, c41, c42⟩, c4f⟩ := X4.out; clear hb) | (go_at_call 29; (with_reducible refine (psent_s HX.out _ I0.out.a I0.out.b (by omega) (by omega) (by omega)).mono ?_); rintro e wn ⟨rfl, hb⟩; have X3 := hid_of (X3.out.grow hb); have X4 := hid_of (X4.out.grow hb); have I0 := hid_of (I0.out.grow hb); have BEL := BEL.trans (hb.mono BEL.size); obtain ⟨⟨c30, c31, c32, c33, c34, c35⟩, c3f⟩ := X3.out; obtain ⟨⟨c40, c41, c42⟩, c4f⟩ := X4.out; clear hb))
      have uu0 := fun y => Up.cell c30 y
      have uu1 := fun y => Up.cell c31 y
      have uu2 := fun y => Up.cell c33 y
      have uu3 := fun y => Up.cell c40 y
      have uu4 := fun y => Up.cell c41 y
      have uu5 := fun y => Up.cell c42 y
      refine wp_region_up (by kernel_rfl) (by kernel_rfl) ?_
      repeat (quiet_step (first | (go_at_call 17; with_reducible exact up_of fun w' hb' => last_l HZ.out w' ⟨by omega, by omega⟩ (by omega))))
      refine wpQuiet_nil ?_
      intro w3 hb
      clear uu0 uu1 uu2 uu3 uu4 uu5
      have X3 := hid_of (X3.out.grow hb)
      have X4 := hid_of (X4.out.grow hb)
      have I0 := hid_of (I0.out.grow hb)
      have BEL := BEL.trans (hb.mono BEL.size)
      clear hb
      go_wp2_with fail
      go_ret
      exact ⟨rfl, BEL⟩

end Go.Proofs.Ytmkmaeblnnfheaa
