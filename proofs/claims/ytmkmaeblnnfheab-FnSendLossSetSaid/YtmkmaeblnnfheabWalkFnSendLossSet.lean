/- The walk of the law FnSendLossSet. -/
import Derived.Test.YtmkmaeblnnfheabLawKit
import Derived.Test.YtmkmaeblnnfheabMg6
import Derived.Test.YtmkmaeblnnfheabLawKit2
import Derived.Test.YtmkmaeblnnfheabLawKit3
namespace Go.Proofs.Ytmkmaeblnnfheab
open Go.RowKit
attribute [local irreducible] Go.wpQuiet

set_option linter.unusedVariables false in
set_option maxRecDepth 100000 in
set_option maxHeartbeats 8000000 in
theorem walkFnSendLossSet (w : World) (a : Option Addr) (len cap : Nat) (zs : List Int) (h : IsRow .u8 w a len cap zs) :
    Calls Try.prog 12 #[.slice a len cap] w fun e w' => e = .returned (.bool true) ∧ Below w.heap.size w w' := by
  by_cases hllen : 1048576 < len
  · go_enter Try.func12, Try.ntmps12
    go_wp2
    go_ret
    exact ⟨rfl, Below.refl _ _⟩
  have BEL : Below w.heap.size w w := Below.refl _ _
  go_enter Try.func12, Try.ntmps12
  go_wp2_with fail
  with_reducible refine (drawLoss_any _ a len cap zs h).mono ?_
  rintro e w1 ⟨d, f, l, n', LA, LB, A, ca, B, cb, _, rfl, ⟨o, D, g, rfl, hD⟩, ⟨hd, hA, hB⟩, hI, hJ, hb⟩
  have hsz1 := hb.size
  have BEL := BEL.trans (hb.mono BEL.size)
  have I0 := hid_of (In2.of hI hJ)
  clear hI hJ hb
  clear h
  obtain ⟨⟨⟨d1, f1, l1, n1, LA1, LB1⟩, b⟩, hx⟩ : ∃ x, sendLoss ⟨d, f, l, n', LA, LB⟩ ⟨o, D, g⟩ = x := ⟨_, rfl⟩
  have hlen : LA1.length ≤ 2000000 ∧ LB1.length ≤ 2000000 := by have := sendLoss_len ⟨d, f, l, n', LA, LB⟩ ⟨o, D, g⟩; rw [hx] at this; exact ⟨by have := this.1; dsimp only at this; omega, by have := this.2; dsimp only at this; omega⟩
  obtain ⟨hl1, hl2⟩ := hlen
  have HX := hid_of hx
  clear hx
  go_upto_region 4 with (fail)
  generalize hW : World.alloc (World.alloc w1 _) _ = w2
  have hb : Below w1.heap.size w1 w2 := by rw [← hW]; exact ba (ba (Below.refl _ _) _) _
  have I0 := hid_of (I0.out.grow hb)
  have BEL := BEL.trans (hb.mono BEL.size)
  have hsz2 : w1.heap.size + 2 ≤ w2.heap.size := by rw [← hW]; simp
  have X3 : Hid (Own6 w2 w1.heap.size d f l n' A LA.length ca B LB.length cb) := by rw [← hW]; exact hid_of ((Own6.newT _ _).alloc _)
  have X4 : Hid (Own3 w2 (w1.heap.size + 1) o D g) := by rw [← hW]; exact hid_of (Own3.newT2 _ _)
  clear hW hb
  obtain ⟨⟨c30, c31, c32, c33, c34, c35⟩, c3f⟩ := X3.out
  obtain ⟨⟨c40, c41, c42⟩, c4f⟩ := X4.out
  go_wp2_with fail
  clear c30 c31 c32 c33 c34 c35 c3f
  clear c40 c41 c42 c4f
  with_reducible refine (sloss_i _ _ _ _ LA LB A ca B cb o D g _ I0.out.a I0.out.b I0.out.ea I0.out.eb (by omega) (by omega) (by omega)).mono ?_
  rw [HX.out]
  rintro e w3 ⟨⟨_, rfl, A1, c1a, B1, c1b, rfl, hI, hJ, hap⟩, hb⟩
  dsimp only at hI hJ
  have hsz3 := hb.size
  have X3 := hid_of (X3.out.grow hb)
  have X4 := hid_of (X4.out.grow hb)
  have I0 := hid_of (I0.out.grow hb)
  have BEL := BEL.trans (hb.mono BEL.size)
  have I1 := hid_of (In2.of hI hJ)
  clear hI hJ hap hb
  go_upto_region 5 with (fail)
  generalize hW : World.alloc w3 _ = w4
  have hb : Below w3.heap.size w3 w4 := by rw [← hW]; exact ba (Below.refl _ _) _
  have X3 := hid_of (X3.out.grow hb)
  have X4 := hid_of (X4.out.grow hb)
  have I0 := hid_of (I0.out.grow hb)
  have I1 := hid_of (I1.out.grow hb)
  have BEL := BEL.trans (hb.mono BEL.size)
  have hsz4 : w3.heap.size + 1 ≤ w4.heap.size := by rw [← hW]; simp
  have X5 : Hid (Own6 w4 w3.heap.size d1 f1 l1 n1 A1 LA1.length c1a B1 LB1.length c1b) := by rw [← hW]; exact hid_of (Own6.newT _ _)
  clear hW hb
  obtain ⟨⟨c30, c31, c32, c33, c34, c35⟩, c3f⟩ := X3.out
  obtain ⟨⟨c40, c41, c42⟩, c4f⟩ := X4.out
  go_wp2_with fail
  clear c30 c31 c32 c33 c34 c35 c3f
  clear c40 c41 c42 c4f
  with_reducible refine (sloss_s _ _ _ _ LA LB A ca B cb o D g _ I0.out.a I0.out.b I0.out.ea I0.out.eb (by omega) (by omega) (by omega)).mono ?_
  rw [HX.out]
  rintro e w5 ⟨⟨_, rfl, A2, c2a, B2, c2b, rfl, hI, hJ, hap⟩, hb⟩
  dsimp only at hI hJ
  have hsz5 := hb.size
  have X3 := hid_of (X3.out.grow hb)
  have X4 := hid_of (X4.out.grow hb)
  have X5 := hid_of (X5.out.grow hb)
  have I0 := hid_of (I0.out.grow hb)
  have I1 := hid_of (I1.out.grow hb)
  have BEL := BEL.trans (hb.mono BEL.size)
  have I2 := hid_of (In2.of hI hJ)
  clear hI hJ hap hb
  go_upto_region 6 with (fail)
  generalize hW : World.alloc w5 _ = w6
  have hb : Below w5.heap.size w5 w6 := by rw [← hW]; exact ba (Below.refl _ _) _
  have X3 := hid_of (X3.out.grow hb)
  have X4 := hid_of (X4.out.grow hb)
  have X5 := hid_of (X5.out.grow hb)
  have I0 := hid_of (I0.out.grow hb)
  have I1 := hid_of (I1.out.grow hb)
  have I2 := hid_of (I2.out.grow hb)
  have BEL := BEL.trans (hb.mono BEL.size)
  have hsz6 : w5.heap.size + 1 ≤ w6.heap.size := by rw [← hW]; simp
  have X7 : Hid (Own6 w6 w5.heap.size d1 f1 l1 n1 A2 LA1.length c2a B2 LB1.length c2b) := by rw [← hW]; exact hid_of (Own6.newT _ _)
  clear hW hb
  cases b with
  | false =>
    obtain ⟨⟨c30, c31, c32, c33, c34, c35⟩, c3f⟩ := X3.out
    obtain ⟨⟨c40, c41, c42⟩, c4f⟩ := X4.out
    obtain ⟨⟨c50, c51, c52, c53, c54, c55⟩, c5f⟩ := X5.out
    obtain ⟨⟨c70, c71, c72, c73, c74, c75⟩, c7f⟩ := X7.out
    go_wp2_with (go_at_call 16; (with_reducible refine (sameS_any _ _ _ _ _ _ _ _ _ _ _ _ _ _ _ I1.out.a I1.out.b I2.out.a I2.out.b (by omega) (by omega)).mono ?_); rintro e wn ⟨rfl, hb⟩; have X3 := hid_of (X3.out.grow hb); have X4 := hid_of (X4.out.grow hb); have X5 := hid_of (X5.out.grow hb); have X7 := hid_of (X7.out.grow hb); have I0 := hid_of (I0.out.grow hb); have I1 := hid_of (I1.out.grow hb); have I2 := hid_of (I2.out.grow hb); have BEL := BEL.trans (hb.mono BEL.size); obtain ⟨⟨c30, c31, c32, c33, c34, c35⟩, c3f⟩ := X3.out; obtain ⟨⟨c40, c41, c42⟩, c4f⟩ := X4.out; obtain ⟨⟨c50, c51, c52, c53, c54, c55⟩, c5f⟩ := X5.out; obtain ⟨⟨c70, c71, c72, c73, c74, c75⟩, c7f⟩ := X7.out; clear hb)
    go_ret
    exact ⟨rfl, BEL⟩
  | true =>
    obtain ⟨hs, hp, he⟩ := sendLoss_yes HX.out
    obtain ⟨⟨ho0, ho1⟩, _, hl0, hl3⟩ := hp.bd hs
    dsimp only at ho0 ho1 hl0 hl3
    have hv0 := hs.a
    have hv2 := hs.b
    have hv1 : SV ⟨d1, f1, l1, n1, LA1, LB1⟩ := by rw [← he]; exact hs.loss hp
    have eA : LA = LA1 := congrArg Sd.A he
    have hmem : ∀ i, memB LB1 i = (memB LB i || ((decide (o ≤ i) && decide (i ≤ Pt.last ⟨o, D, g⟩)) && !memB LA i)) := fun i => by have := loss_mem (p := ⟨o, D, g⟩) hs i; rw [he] at this; exact this
    obtain ⟨z, hz⟩ : ∃ z, Pt.last ⟨o, D, g⟩ = z := ⟨_, rfl⟩
    rw [hz] at hl0 hl3 hmem
    have HZ := hid_of hz
    clear hz
    have HOK := hid_of (okS_iff.2 hv1)
    have VA := hid_of (rvB_iff.2 hs.a)
    have VB := hid_of (rvB_iff.2 hs.b)
    have VA1 := hid_of (rvB_iff.2 hv1.a)
    have VB1 := hid_of (rvB_iff.2 hv1.b)
    dsimp only at VA VB VA1 VB1
    have HM := hid_of hmem
    clear hmem hs hp hv1 he hv0 hv2
    subst eA
    obtain ⟨⟨c30, c31, c32, c33, c34, c35⟩, c3f⟩ := X3.out
    obtain ⟨⟨c40, c41, c42⟩, c4f⟩ := X4.out
    obtain ⟨⟨c50, c51, c52, c53, c54, c55⟩, c5f⟩ := X5.out
    obtain ⟨⟨c70, c71, c72, c73, c74, c75⟩, c7f⟩ := X7.out
    go_wp2_with (go_at_call 16; (with_reducible refine (sameS_any _ _ _ _ _ _ _ _ _ _ _ _ _ _ _ I1.out.a I1.out.b I2.out.a I2.out.b (by omega) (by omega)).mono ?_); rintro e wn ⟨rfl, hb⟩; have X3 := hid_of (X3.out.grow hb); have X4 := hid_of (X4.out.grow hb); have X5 := hid_of (X5.out.grow hb); have X7 := hid_of (X7.out.grow hb); have I0 := hid_of (I0.out.grow hb); have I1 := hid_of (I1.out.grow hb); have I2 := hid_of (I2.out.grow hb); have BEL := BEL.trans (hb.mono BEL.size); obtain ⟨⟨c30, c31, c32, c33, c34, c35⟩, c3f⟩ := X3.out; obtain ⟨⟨c40, c41, c42⟩, c4f⟩ := X4.out; obtain ⟨⟨c50, c51, c52, c53, c54, c55⟩, c5f⟩ := X5.out; obtain ⟨⟨c70, c71, c72, c73, c74, c75⟩, c7f⟩ := X7.out; clear hb)
    clear c30 c31 c32 c33 c34 c35 c3f
    clear c40 c41 c42 c4f
    clear c50 c51 c52 c53 c54 c55 c5f
    clear c70 c71 c72 c73 c74 c75 c7f
    go_loopw [9] (fun i wr => ∃ k : Nat, i = .int .i64 (k : Nat) ∧ k ≤ 31 ∧ Below wn.heap.size wn wr) (fun i _ => 31 - (intOf i).toNat)
    case atStart => exact ⟨0, rfl, by omega, Below.refl _ _⟩
    case round =>
      obtain ⟨k, rfl, hk, hb⟩ := hrel
      have X3 := hid_of (X3.out.grow hb)
      have X4 := hid_of (X4.out.grow hb)
      have X5 := hid_of (X5.out.grow hb)
      have X7 := hid_of (X7.out.grow hb)
      have I0 := hid_of (I0.out.grow hb)
      have I1 := hid_of (I1.out.grow hb)
      have I2 := hid_of (I2.out.grow hb)
      have BEL := BEL.trans (hb.mono BEL.size)
      have BLS := hb
      clear hb
      by_cases hlt : (k : Int) ≤ 30
      · have hk30 : k ≤ 30 := by omega
        have hm := HM.out (k : Int)
        cases h1 : decide (o ≤ (k : Int)) <;> cases h2 : decide ((k : Int) ≤ z) <;> cases hA : memB LA (k : Int) <;> cases hB : memB LB (k : Int)
        all_goals
          rw [hA, hB] at hm
          simp [h1, h2] at hm
          have HM1 := hid_of hm
          have HA := hid_of hA
          have HB := hid_of hB
          clear hA hB hm
          obtain ⟨⟨c30, c31, c32, c33, c34, c35⟩, c3f⟩ := X3.out
          obtain ⟨⟨c40, c41, c42⟩, c4f⟩ := X4.out
          obtain ⟨⟨c50, c51, c52, c53, c54, c55⟩, c5f⟩ := X5.out
          go_wp2_with fail
          have uu0 := fun y => Up.cell c34 y
          have uu1 := fun y => Up.cell c35 y
          have uu2 := fun y => Up.cell c54 y
          have uu3 := fun y => Up.cell c55 y
          have uu4 := fun y => Up.cell c40 y
          have uu5 := fun y => Up.cell c41 y
          have uu6 := fun y => Up.cell c42 y
          refine wp_region_up (by kernel_rfl) (by kernel_rfl) ?_
          repeat (quiet_step (first | (go_at_call 29; with_reducible exact up_of fun w' hb' => rhas_v VB1.out HM1.out w' (I1.out.b.below hb') (by omega)) | (go_at_call 29; with_reducible exact up_of fun w' hb' => rhas_v VB.out HB.out w' (I0.out.b.below hb') (by omega)) | (go_at_call 29; with_reducible exact up_of fun w' hb' => rhas_v VA.out HA.out w' (I0.out.a.below hb') (by omega)) | (go_at_call 27; with_reducible exact up_of fun w' hb' => last_l HZ.out w' ⟨by omega, by omega⟩ (by omega))))
          refine wpQuiet_nil ?_
          intro w8 hb
          clear uu0 uu1 uu2 uu3 uu4 uu5 uu6
          have X3 := hid_of (X3.out.grow hb)
          have X4 := hid_of (X4.out.grow hb)
          have X5 := hid_of (X5.out.grow hb)
          have X7 := hid_of (X7.out.grow hb)
          have I0 := hid_of (I0.out.grow hb)
          have I1 := hid_of (I1.out.grow hb)
          have I2 := hid_of (I2.out.grow hb)
          have BEL := BEL.trans (hb.mono BEL.size)
          have BLS := BLS.trans (hb.mono BLS.size)
          clear hb
          go_wp2_with fail
          go_roundw
          case rel => exact ⟨k + 1, by go_num, by omega, BLS⟩
          case measure => simp [intOf]; omega
      · have hk31 : k = 31 := by omega
        clear hk31
        obtain ⟨⟨c30, c31, c32, c33, c34, c35⟩, c3f⟩ := X3.out
        obtain ⟨⟨c50, c51, c52, c53, c54, c55⟩, c5f⟩ := X5.out
        go_wp2_with (first | (go_at_call 34; (with_reducible refine (sv_v_i HOK.out _ I1.out.a I1.out.b (by omega) (by omega)).mono ?_); rintro e wn ⟨rfl, hb⟩; have X3 := hid_of (X3.out.grow hb); have X4 := hid_of (X4.out.grow hb); have X5 := hid_of (X5.out.grow hb); have X7 := hid_of (X7.out.grow hb); have I0 := hid_of (I0.out.grow hb); have I1 := hid_of (I1.out.grow hb); have I2 := hid_of (I2.out.grow hb); have BEL := BEL.trans (hb.mono BEL.size); have BLS := BLS.trans (hb.mono BLS.size); obtain ⟨⟨c30, c31, c32, c33, c34, c35⟩, c3f⟩ := X3.out; obtain ⟨⟨c50, c51, c52, c53, c54, c55⟩, c5f⟩ := X5.out; clear hb) | (go_at_call 28; (with_reducible refine (sameR_any _ _ _ _ _ _ _ I1.out.a I0.out.a (by omega)).mono ?_); rintro e wn ⟨rfl, hb⟩; have X3 := hid_of (X3.out.grow hb); have X4 := hid_of (X4.out.grow hb); have X5 := hid_of (X5.out.grow hb); have X7 := hid_of (X7.out.grow hb); have I0 := hid_of (I0.out.grow hb); have I1 := hid_of (I1.out.grow hb); have I2 := hid_of (I2.out.grow hb); have BEL := BEL.trans (hb.mono BEL.size); have BLS := BLS.trans (hb.mono BLS.size); obtain ⟨⟨c30, c31, c32, c33, c34, c35⟩, c3f⟩ := X3.out; obtain ⟨⟨c50, c51, c52, c53, c54, c55⟩, c5f⟩ := X5.out; clear hb))
        go_ret
        exact ⟨rfl, BEL⟩

end Go.Proofs.Ytmkmaeblnnfheab
