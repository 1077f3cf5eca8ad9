/- The program's SendAck. -/
import Derived.Test.YtmkmaeblnnfheabSndAs
import Derived.Test.YtmkmaeblnnfheabRngF
import Derived.Test.YtmkmaeblnnfheabUpTail
namespace Go.Proofs.Ytmkmaeblnnfheab
open Go.RowKit
attribute [local irreducible] Go.wpQuiet

set_option linter.unusedVariables false in
set_option maxRecDepth 100000 in
set_option maxHeartbeats 4000000 in
theorem sack_i_bad (d : ByteArray) (f : Bool) (l n : Int) (LA LB : List Rg) (A : Option Addr) (ca : Nat) (B : Option Addr) (cb : Nat) (o : Int) (dp : ByteArray) (fp : Bool) (w : World) (hA : RngAt w A LA.length LA) (hB : RngAt w B LB.length LB) (eA : A = none → ca = 0) (eB : B = none → cb = 0) (hn : LA.length ≤ 2000000) (hn' : LB.length ≤ 2000000) (hdp : dp.size ≤ 2000000) (HV : Hid (sentOk ⟨d, f, l, n, LA, LB⟩ ⟨o, dp, fp⟩ = false)) :
    Calls Try.prog 36 #[.agg #[.string d, .bool f, .int .i64 l, .int .i64 n, .slice A LA.length ca, .slice B LB.length cb], .agg #[.int .i64 o, .string dp, .bool fp]] w (GotSb w (sd0, false)) := by
  have z := ((Own6.new (d := d) (f := f) (l := l) (n := n) (A := A) (na := LA.length) (ca := ca) (B := B) (nb := LB.length) (cb := cb) w).alloc (.cells #[.int .i64 o, .string dp, .bool fp] 29)).alloc (.cells #[.string (⟨#[]⟩ : ByteArray), .bool false, .int .i64 0, .int .i64 0, .slice none 0 0, .slice none 0 0] 25)
  have q := (Own3.new (w.alloc (.cells #[.string d, .bool f, .int .i64 l, .int .i64 n, .slice A LA.length ca, .slice B LB.length cb] 25)) o dp fp).alloc (.cells #[.string (⟨#[]⟩ : ByteArray), .bool false, .int .i64 0, .int .i64 0, .slice none 0 0, .slice none 0 0] 25)
  have r := Own6.new (d := (⟨#[]⟩ : ByteArray)) (f := false) (l := 0) (n := 0) (A := none) (na := 0) (ca := 0) (B := none) (nb := 0) (cb := 0) ((w.alloc (.cells #[.string d, .bool f, .int .i64 l, .int .i64 n, .slice A LA.length ca, .slice B LB.length cb] 25)).alloc (.cells #[.int .i64 o, .string dp, .bool fp] 29))
  rw [show (w.alloc (.cells #[.string d, .bool f, .int .i64 l, .int .i64 n, .slice A LA.length ca, .slice B LB.length cb] 25)).heap.size = w.heap.size + 1 from by simp] at q
  rw [show ((w.alloc (.cells #[.string d, .bool f, .int .i64 l, .int .i64 n, .slice A LA.length ca, .slice B LB.length cb] 25)).alloc (.cells #[.int .i64 o, .string dp, .bool fp] 29)).heap.size = w.heap.size + 1 + 1 from by simp] at r
  have hW0 : Below w.heap.size w _ := (((Below.refl _ w).alloc (Nat.le_refl _) (.cells #[.string d, .bool f, .int .i64 l, .int .i64 n, .slice A LA.length ca, .slice B LB.length cb] 25)).alloc (by simp) (.cells #[.int .i64 o, .string dp, .bool fp] 29)).alloc (by simp; omega) (.cells #[.string (⟨#[]⟩ : ByteArray), .bool false, .int .i64 0, .int .i64 0, .slice none 0 0, .slice none 0 0] 25)
  have hsz : (((w.alloc (.cells #[.string d, .bool f, .int .i64 l, .int .i64 n, .slice A LA.length ca, .slice B LB.length cb] 25)).alloc (.cells #[.int .i64 o, .string dp, .bool fp] 29)).alloc (.cells #[.string (⟨#[]⟩ : ByteArray), .bool false, .int .i64 0, .int .i64 0, .slice none 0 0, .slice none 0 0] 25)).heap.size = w.heap.size + 1 + 1 + 1 := by simp
  go_enter Try.func36, Try.ntmps36
  have HZ := hid_of z
  have HQ := hid_of q
  have HR := hid_of r
  obtain ⟨⟨z0, z1, z2, z3, z4, z5⟩, zf⟩ := HZ.out
  obtain ⟨⟨q0, q1, q2⟩, qf⟩ := HQ.out
  clear z q r
  go_wp2_with (go_at_call 33; (with_reducible refine (psent_i HV.out _ (hA.below hW0) (hB.below hW0) hn hn' hdp).mono ?_); rintro e w1 ⟨rfl, hb1⟩; have HZ1 := hid_of (HZ.out.under hb1 (by omega)); have HQ1 := hid_of (HQ.out.under hb1 (by omega)); have HR1 := hid_of (HR.out.under hb1 (by omega)); have hw1 := hW0.trans (hb1.mono hW0.size); have hs1 : w.heap.size + 1 + 1 + 1 ≤ w1.heap.size := (by have := hb1.size; omega); clear z0 z1 z2 z3 z4 z5 zf q0 q1 q2 qf hb1; obtain ⟨⟨r0, r1, r2, r3, r4, r5⟩, rf⟩ := HR1.out)
  try simp only [Exit.inBlock, Exit.then]
  refine bodyPost_ret (results_sb rfl rfl rfl (HR1.out.setAll ⟨#[]⟩ false 0 0 none 0 0 none 0 0)) rfl ?_
  refine ⟨⟨_, rfl, got_zero rfl⟩, ?_⟩
  repeat refine Below.setCell ?_ (by dsimp only; omega) _
  exact hw1

set_option linter.unusedVariables false in
set_option maxRecDepth 100000 in
set_option maxHeartbeats 4000000 in
theorem sack_i_ok (d : ByteArray) (f : Bool) (l n : Int) (LA LB : List Rg) (A : Option Addr) (ca : Nat) (B : Option Addr) (cb : Nat) (o : Int) (dp : ByteArray) (fp : Bool) (w : World) (hA : RngAt w A LA.length LA) (hB : RngAt w B LB.length LB) (eA : A = none → ca = 0) (eB : B = none → cb = 0) (hn : LA.length ≤ 2000000) (hn' : LB.length ≤ 2000000) (hdp : dp.size ≤ 2000000) (hca : LA.length ≤ ca) (HV : Hid (sentOk ⟨d, f, l, n, LA, LB⟩ ⟨o, dp, fp⟩ = true)) (d1 : ByteArray) (f1 : Bool) (l1 n1 : Int) (LA1 LB1 : List Rg) (HX : Hid (ack ⟨d, f, l, n, LA, LB⟩ ⟨o, dp, fp⟩ = ⟨d1, f1, l1, n1, LA1, LB1⟩)) :
    Calls Try.prog 36 #[.agg #[.string d, .bool f, .int .i64 l, .int .i64 n, .slice A LA.length ca, .slice B LB.length cb], .agg #[.int .i64 o, .string dp, .bool fp]] w (GotSb w (⟨d1, f1, l1, n1, LA1, LB1⟩, true)) := by
  have hsv := hid_of (sentOk_iff.1 HV.out).1
  have hst := hid_of (sentOk_iff.1 HV.out).2
  obtain ⟨ls, hls⟩ : ∃ x, Pt.last ⟨o, dp, fp⟩ = x := ⟨_, rfl⟩
  have HLS := hid_of hls
  obtain ⟨⟨h1, h2⟩, h3, h4, h5⟩ := hst.out.bd hsv.out
  obtain ⟨_, _, _, h6, h7⟩ := hsv.out.bd
  rw [hls] at h4 h5
  dsimp only at h1 h2 h3 h4 h6 h7
  have HE : Hid (d = d1 ∧ f = f1 ∧ l = l1 ∧ n = n1 ∧ add LA o ls = LA1 ∧ remove LB o ls = LB1) := by
    have := HX.out
    unfold ack at this
    dsimp only at this
    rw [hls] at this
    cases this
    exact ⟨rfl, rfl, rfl, rfl, rfl, rfl⟩
  clear hls HX
  have z := ((Own6.new (d := d) (f := f) (l := l) (n := n) (A := A) (na := LA.length) (ca := ca) (B := B) (nb := LB.length) (cb := cb) w).alloc (.cells #[.int .i64 o, .string dp, .bool fp] 29)).alloc (.cells #[.string (⟨#[]⟩ : ByteArray), .bool false, .int .i64 0, .int .i64 0, .slice none 0 0, .slice none 0 0] 25)
  have q := (Own3.new (w.alloc (.cells #[.string d, .bool f, .int .i64 l, .int .i64 n, .slice A LA.length ca, .slice B LB.length cb] 25)) o dp fp).alloc (.cells #[.string (⟨#[]⟩ : ByteArray), .bool false, .int .i64 0, .int .i64 0, .slice none 0 0, .slice none 0 0] 25)
  have r := Own6.new (d := (⟨#[]⟩ : ByteArray)) (f := false) (l := 0) (n := 0) (A := none) (na := 0) (ca := 0) (B := none) (nb := 0) (cb := 0) ((w.alloc (.cells #[.string d, .bool f, .int .i64 l, .int .i64 n, .slice A LA.length ca, .slice B LB.length cb] 25)).alloc (.cells #[.int .i64 o, .string dp, .bool fp] 29))
  rw [show (w.alloc (.cells #[.string d, .bool f, .int .i64 l, .int .i64 n, .slice A LA.length ca, .slice B LB.length cb] 25)).heap.size = w.heap.size + 1 from by simp] at q
  rw [show ((w.alloc (.cells #[.string d, .bool f, .int .i64 l, .int .i64 n, .slice A LA.length ca, .slice B LB.length cb] 25)).alloc (.cells #[.int .i64 o, .string dp, .bool fp] 29)).heap.size = w.heap.size + 1 + 1 from by simp] at r
  have hW0 : Below w.heap.size w _ := (((Below.refl _ w).alloc (Nat.le_refl _) (.cells #[.string d, .bool f, .int .i64 l, .int .i64 n, .slice A LA.length ca, .slice B LB.length cb] 25)).alloc (by simp) (.cells #[.int .i64 o, .string dp, .bool fp] 29)).alloc (by simp; omega) (.cells #[.string (⟨#[]⟩ : ByteArray), .bool false, .int .i64 0, .int .i64 0, .slice none 0 0, .slice none 0 0] 25)
  have hsz : (((w.alloc (.cells #[.string d, .bool f, .int .i64 l, .int .i64 n, .slice A LA.length ca, .slice B LB.length cb] 25)).alloc (.cells #[.int .i64 o, .string dp, .bool fp] 29)).alloc (.cells #[.string (⟨#[]⟩ : ByteArray), .bool false, .int .i64 0, .int .i64 0, .slice none 0 0, .slice none 0 0] 25)).heap.size = w.heap.size + 1 + 1 + 1 := by simp
  go_enter Try.func36, Try.ntmps36
  have HZ := hid_of z
  have HQ := hid_of q
  have HR := hid_of r
  obtain ⟨⟨z0, z1, z2, z3, z4, z5⟩, zf⟩ := HZ.out
  obtain ⟨⟨q0, q1, q2⟩, qf⟩ := HQ.out
  clear z q r
  go_wp2_with (first
    | (go_at_call 33; (with_reducible refine (psent_i HV.out _ (hA.below hW0) (hB.below hW0) hn hn' hdp).mono ?_); rintro e w1 ⟨rfl, hb1⟩; have HZ1 := hid_of (HZ.out.under hb1 (by omega)); have HQ1 := hid_of (HQ.out.under hb1 (by omega)); have HR1 := hid_of (HR.out.under hb1 (by omega)); have hw1 := hW0.trans (hb1.mono hW0.size); have hs1 : w.heap.size + 1 + 1 + 1 ≤ w1.heap.size := (by have := hb1.size; omega); clear z0 z1 z2 z3 z4 z5 zf q0 q1 q2 qf hb1; obtain ⟨⟨z0, z1, z2, z3, z4, z5⟩, zf⟩ := HZ1.out)
    | (go_at_call 49; (with_reducible refine (copy_i d f l n LA LB A ca B cb _ (hA.below hw1) (hB.below hw1) eA eB (by omega) (by omega)).mono ?_); rintro e w2 ⟨⟨_, rfl, A1, c1, B1, c2, rfl, hI1, hJ1, hap⟩, hb2⟩; have HZ2 := hid_of (HZ1.out.under hb2 (by omega)); have HQ2 := hid_of (HQ1.out.under hb2 (by omega)); have HR2 := hid_of (HR1.out.under hb2 (by omega)); have hw2 := hw1.trans (hb2.mono hw1.size); have hs2 := hb2.size; clear z0 z1 z2 z3 z4 z5 zf hb2 hI1 hJ1 hap))
  generalize hW8 : World.alloc w2 _ = W8
  have HZ8 : Hid (Own6 W8 w.heap.size d f l n A LA.length ca B LB.length cb) := by rw [← hW8]; exact hid_of (HZ2.out.alloc _)
  have HQ8 : Hid (Own3 W8 (w.heap.size + 1) o dp fp) := by rw [← hW8]; exact hid_of (HQ2.out.alloc _)
  have HR8 : Hid (Own6 W8 (w.heap.size + 1 + 1) (⟨#[]⟩ : ByteArray) false 0 0 none 0 0 none 0 0) := by rw [← hW8]; exact hid_of (HR2.out.alloc _)
  have HO8 : Hid (Own6 W8 w2.heap.size d f l n A1 LA.length c1 B1 LB.length c2) := by rw [← hW8]; exact hid_of (Own6.new w2)
  have hw8 : Below w.heap.size w W8 := by rw [← hW8]; exact ba hw2 _
  have hs8 : w2.heap.size < W8.heap.size := by rw [← hW8]; simp
  clear hW8 HZ HQ HR HZ1 HQ1 HR1 HZ2 HQ2 HR2 hw1 hw2
  have u4 := fun y : Up W8 => y.cell HZ8.out.1.2.2.2.2.1
  have v0 := fun y : Up W8 => y.cell HQ8.out.1.1
  have v1 := fun y : Up W8 => y.cell HQ8.out.1.2.1
  have v2 := fun y : Up W8 => y.cell HQ8.out.1.2.2
  refine wp_region_up_tail 6 (by kernel_rfl) (by kernel_rfl) ?_
  simp only [List.take_succ_cons, List.take_zero, List.drop_succ_cons, List.drop_zero]
  repeat (quiet_step ((go_at_call 52; with_reducible exact up_box fun w' => last_v_j HLS.out w' ⟨by omega, by omega⟩ (by omega))))
  refine wpQuiet_nil ?_
  intro w9 hb9
  clear u4 v0 v1 v2
  have hs9 := hb9.size
  have HZ9 := hid_of (HZ8.out.under hb9 (by omega))
  have HQ9 := hid_of (HQ8.out.under hb9 (by omega))
  have HR9 := hid_of (HR8.out.under hb9 (by omega))
  have HO9 := hid_of (HO8.out.under hb9 (by omega))
  have hw9 := hw8.trans (hb9.mono hw8.size)
  clear HZ8 HQ8 HR8 HO8 hw8 hb9
  go_wp2_with (go_at_call 63; (with_reducible refine (added_v rfl A ca _ (hA.below hw9) (by omega) ⟨by omega, by omega⟩ ⟨by omega, by omega⟩ (LInv.of hsv.out.a).wide eA hca).mono ?_); rintro e' w10 ⟨A2, c3, rfl, hI10, hb10⟩; have hs10 := hb10.size; have HZ10 := hid_of (HZ9.out.under hb10 (by omega)); have HQ10 := hid_of (HQ9.out.under hb10 (by omega)); have HR10 := hid_of (HR9.out.under hb10 (by omega)); have HO10 := hid_of (HO9.out.under hb10 (by omega)); have hw10 := hw9.trans (hb10.mono hw9.size); have o4 := HO10.out.1.2.2.2.2.1; have of := HO10.out.2)
  generalize hW12 : World.setCell w10 _ _ = W12
  have HZ12 : Hid (Own6 W12 w.heap.size d f l n A LA.length ca B LB.length cb) := by rw [← hW12]; exact hid_of (HZ10.out.other (by dsimp only; omega) _)
  have HQ12 : Hid (Own3 W12 (w.heap.size + 1) o dp fp) := by rw [← hW12]; exact hid_of (HQ10.out.other (by dsimp only; omega) _)
  have HR12 : Hid (Own6 W12 (w.heap.size + 1 + 1) (⟨#[]⟩ : ByteArray) false 0 0 none 0 0 none 0 0) := by rw [← hW12]; exact hid_of (HR10.out.other (by dsimp only; omega) _)
  have HO12 : Hid (Own6 W12 w2.heap.size d f l n A2 (add LA o ls).length c3 B1 LB.length c2) := by rw [← hW12]; exact hid_of (HO10.out.set4 _ _ _)
  have hw12 : Below w.heap.size w W12 := by rw [← hW12]; exact hw10.setCell (by dsimp only; omega) _
  have hs12 : w10.heap.size ≤ W12.heap.size := by rw [← hW12]; simp [World.setCell]
  have hI12 : RngIn W12 w9.heap.size w10.heap.size A2 (add LA o ls).length c3 (add LA o ls) := by rw [← hW12]; exact hI10.setLow (by dsimp only; omega) _
  clear hW12 HZ9 HQ9 HR9 HO9 HZ10 HQ10 HR10 HO10 hw9 hw10 o4 of hb10 hI10
  go_wp2_with fail
  have u4 := fun y : Up W12 => y.cell HZ12.out.1.2.2.2.2.2
  have v0 := fun y : Up W12 => y.cell HQ12.out.1.1
  have v1 := fun y : Up W12 => y.cell HQ12.out.1.2.1
  have v2 := fun y : Up W12 => y.cell HQ12.out.1.2.2
  refine wp_region_up_tail 6 (by kernel_rfl) (by kernel_rfl) ?_
  simp only [List.take_succ_cons, List.take_zero, List.drop_succ_cons, List.drop_zero]
  repeat (quiet_step ((go_at_call 52; with_reducible exact up_box fun w' => last_v_j HLS.out w' ⟨by omega, by omega⟩ (by omega))))
  refine wpQuiet_nil ?_
  intro w13 hb13
  clear u4 v0 v1 v2
  have hs13 := hb13.size
  have HZ13 := hid_of (HZ12.out.under hb13 (by omega))
  have HQ13 := hid_of (HQ12.out.under hb13 (by omega))
  have HR13 := hid_of (HR12.out.under hb13 (by omega))
  have HO13 := hid_of (HO12.out.under hb13 (by omega))
  have hw13 := hw12.trans (hb13.mono hw12.size)
  have hI13 := hI12.below hb13
  clear HZ12 HQ12 HR12 HO12 hw12 hb13 hI12
  go_wp2_with (go_at_call 51; (with_reducible refine (removed_any B LB.length cb LB _ o ls (hB.below hw13) (by omega) ⟨by omega, by omega⟩ ⟨by omega, by omega⟩).mono ?_); rintro e' w14 ⟨B2, c4, rfl, hJ14, hb14⟩; have hs14 := hb14.size; have HR14 := hid_of (HR13.out.under hb14 (by omega)); have HO14 := hid_of (HO13.out.under hb14 (by omega)); have hw14 := hw13.trans (hb14.mono hw13.size); have hI14 := hI13.below hb14; obtain ⟨⟨o0, o1, o2, o3, o4, o5⟩, of⟩ := HO14.out; obtain ⟨⟨r0, r1, r2, r3, r4, r5⟩, rf⟩ := HR14.out; have ne1 : ¬ (w2.heap.size = w.heap.size + 1 + 1) := (by omega); have ne2 : ¬ (w.heap.size + 1 + 1 = w2.heap.size) := (by omega))
  try simp only [Exit.inBlock, Exit.then]
  obtain ⟨rfl, rfl, rfl, rfl, rfl, rfl⟩ := HE.out
  refine bodyPost_ret (results_sb rfl rfl rfl ((HR14.out.other (by dsimp only; omega) _).setAll d f l n A2 (add LA o ls).length c3 B2 (remove LB o ls).length c4)) rfl ?_
  refine ⟨⟨_, rfl, A2, c3, B2, c4, rfl, ?_, ?_, apart_of hI14 hJ14 (.inl (by omega))⟩, ?_⟩
  · refine RngIn.mono (B := w9.heap.size) (S := w10.heap.size) ?_ (by omega) (by simp [World.setCell]; omega)
    repeat refine RngIn.setLow ?_ (by dsimp only; omega) _
    exact hI14
  · refine RngIn.mono (B := w13.heap.size) (S := w14.heap.size) ?_ (by omega) (by simp [World.setCell])
    repeat refine RngIn.setLow ?_ (by dsimp only; omega) _
    exact hJ14
  · repeat refine Below.setCell ?_ (by dsimp only; omega) _
    exact hw14

theorem sack_i (d : ByteArray) (f : Bool) (l n : Int) (LA LB : List Rg) (A : Option Addr) (ca : Nat) (B : Option Addr) (cb : Nat) (o : Int) (dp : ByteArray) (fp : Bool) (w : World) (hA : RngAt w A LA.length LA) (hB : RngAt w B LB.length LB) (eA : A = none → ca = 0) (eB : B = none → cb = 0) (hn : LA.length ≤ 2000000) (hn' : LB.length ≤ 2000000) (hdp : dp.size ≤ 2000000) (hca : LA.length ≤ ca) :
    Calls Try.prog 36 #[.agg #[.string d, .bool f, .int .i64 l, .int .i64 n, .slice A LA.length ca, .slice B LB.length cb], .agg #[.int .i64 o, .string dp, .bool fp]] w (GotSb w (sendAck ⟨d, f, l, n, LA, LB⟩ ⟨o, dp, fp⟩)) := by
  unfold sendAck
  cases hv : sentOk ⟨d, f, l, n, LA, LB⟩ ⟨o, dp, fp⟩ with
  | false => rw [if_neg (by decide)]; exact sack_i_bad d f l n LA LB A ca B cb o dp fp w hA hB eA eB hn hn' hdp hv
  | true => rw [if_pos rfl]; exact sack_i_ok d f l n LA LB A ca B cb o dp fp w hA hB eA eB hn hn' hdp hca hv _ _ _ _ _ _ (hid_of rfl)

end Go.Proofs.Ytmkmaeblnnfheab
