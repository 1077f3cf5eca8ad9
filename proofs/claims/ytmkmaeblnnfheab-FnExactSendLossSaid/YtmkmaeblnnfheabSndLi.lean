/- The program's SendLoss. -/
import Derived.Test.YtmkmaeblnnfheabSndAs
import Derived.Test.YtmkmaeblnnfheabRngF
namespace Go.Proofs.Ytmkmaeblnnfheab
open Go.RowKit
attribute [local irreducible] Go.wpQuiet

set_option linter.unusedVariables false in
set_option maxRecDepth 100000 in
set_option maxHeartbeats 4000000 in
theorem sloss_i_bad (d : ByteArray) (f : Bool) (l n : Int) (LA LB : List Rg) (A : Option Addr) (ca : Nat) (B : Option Addr) (cb : Nat) (o : Int) (dp : ByteArray) (fp : Bool) (w : World) (hA : RngAt w A LA.length LA) (hB : RngAt w B LB.length LB) (eA : A = none → ca = 0) (eB : B = none → cb = 0) (hn : LA.length ≤ 2000000) (hn' : LB.length ≤ 2000000) (hdp : dp.size ≤ 2000000) (HV : Hid (sentOk ⟨d, f, l, n, LA, LB⟩ ⟨o, dp, fp⟩ = false)) :
    Calls Try.prog 23 #[.agg #[.string d, .bool f, .int .i64 l, .int .i64 n, .slice A LA.length ca, .slice B LB.length cb], .agg #[.int .i64 o, .string dp, .bool fp]] w (GotSb w (sd0, false)) := by
  have z := ((Own6.new (d := d) (f := f) (l := l) (n := n) (A := A) (na := LA.length) (ca := ca) (B := B) (nb := LB.length) (cb := cb) w).alloc (.cells #[.int .i64 o, .string dp, .bool fp] 29)).alloc (.cells #[.string (⟨#[]⟩ : ByteArray), .bool false, .int .i64 0, .int .i64 0, .slice none 0 0, .slice none 0 0] 25)
  have q := (Own3.new (w.alloc (.cells #[.string d, .bool f, .int .i64 l, .int .i64 n, .slice A LA.length ca, .slice B LB.length cb] 25)) o dp fp).alloc (.cells #[.string (⟨#[]⟩ : ByteArray), .bool false, .int .i64 0, .int .i64 0, .slice none 0 0, .slice none 0 0] 25)
  have r := Own6.new (d := (⟨#[]⟩ : ByteArray)) (f := false) (l := 0) (n := 0) (A := none) (na := 0) (ca := 0) (B := none) (nb := 0) (cb := 0) ((w.alloc (.cells #[.string d, .bool f, .int .i64 l, .int .i64 n, .slice A LA.length ca, .slice B LB.length cb] 25)).alloc (.cells #[.int .i64 o, .string dp, .bool fp] 29))
  rw [show (w.alloc (.cells #[.string d, .bool f, .int .i64 l, .int .i64 n, .slice A LA.length ca, .slice B LB.length cb] 25)).heap.size = w.heap.size + 1 from by simp] at q
  rw [show ((w.alloc (.cells #[.string d, .bool f, .int .i64 l, .int .i64 n, .slice A LA.length ca, .slice B LB.length cb] 25)).alloc (.cells #[.int .i64 o, .string dp, .bool fp] 29)).heap.size = w.heap.size + 1 + 1 from by simp] at r
  have hW0 : Below w.heap.size w _ := (((Below.refl _ w).alloc (Nat.le_refl _) (.cells #[.string d, .bool f, .int .i64 l, .int .i64 n, .slice A LA.length ca, .slice B LB.length cb] 25)).alloc (by simp) (.cells #[.int .i64 o, .string dp, .bool fp] 29)).alloc (by simp; omega) (.cells #[.string (⟨#[]⟩ : ByteArray), .bool false, .int .i64 0, .int .i64 0, .slice none 0 0, .slice none 0 0] 25)
  have hsz : (((w.alloc (.cells #[.string d, .bool f, .int .i64 l, .int .i64 n, .slice A LA.length ca, .slice B LB.length cb] 25)).alloc (.cells #[.int .i64 o, .string dp, .bool fp] 29)).alloc (.cells #[.string (⟨#[]⟩ : ByteArray), .bool false, .int .i64 0, .int .i64 0, .slice none 0 0, .slice none 0 0] 25)).heap.size = w.heap.size + 1 + 1 + 1 := by simp
  go_enter Try.func23, Try.ntmps23
  have HZ := hid_of z
  have HQ := hid_of q
  have HR := hid_of r
  obtain ⟨⟨z0, z1, z2, z3, z4, z5⟩, zf⟩ := HZ.out
  obtain ⟨⟨q0, q1, q2⟩, qf⟩ := HQ.out
  clear z q r
  go_wp2_with (go_at_call 33; (with_reducible refine (psent_i HV.out _ (hA.below hW0) (hB.below hW0) hn hn' hdp).mono ?_); rintro e w1 ⟨rfl, hb1⟩; have HZ1 := hid_of (HZ.out.under hb1 (by omega)); have HQ1 := hid_of (HQ.out.under hb1 (by omega)); have HR1 := hid_of (HR.out.under hb1 (by omega)); have hw1 := hW0.trans (hb1.mono hW0.size); have hs1 : w.heap.size + 1 + 1 + 1 ≤ w1.heap.size := (by have := hb1.size; omega); clear z0 z1 z2 z3 z4 z5 zf q0 q1 q2 qf hb1; obtain ⟨⟨r0, r1, r2, r3, r4, r5⟩, rf⟩ := HR1.out)
  try simp only [Exit.inBlock, Exit.then]
  refine bodyPost_ret (results_sb rfl rfl rfl (HR1.out.setAll ⟨#[]⟩ false 0 0 none 0 0 none 0 0)) rfl ?_
  refine ⟨⟨_, rfl, got_zero rfl⟩, ?_⟩
  repeat refine Below.setCell ?_ (by dsimp only; omega) _
  exact hw1

theorem has_v' {b : Bool} {L : List Rg} {q : Int} (hb : memB L q = b) {A : Option Addr} {c : Nat} (w : World) (h : RngAt w A L.length L) (hn : L.length ≤ 2000000) :
    Calls Try.prog 62 #[.slice A L.length c, .int .i64 q] w fun e w' => e = .returned (.bool b) ∧ Below w.heap.size w w' := hb ▸ has_any A L.length c L w q h hn

set_option linter.unusedVariables false in
set_option maxRecDepth 100000 in
set_option maxHeartbeats 4000000 in
theorem sloss_i_ok (d : ByteArray) (f : Bool) (l n : Int) (LA LB : List Rg) (A : Option Addr) (ca : Nat) (B : Option Addr) (cb : Nat) (o : Int) (dp : ByteArray) (fp : Bool) (w : World) (hA : RngAt w A LA.length LA) (hB : RngAt w B LB.length LB) (eA : A = none → ca = 0) (eB : B = none → cb = 0) (hn : LA.length ≤ 2000000) (hn' : LB.length ≤ 2000000) (hdp : dp.size ≤ 2000000) (HV : Hid (sentOk ⟨d, f, l, n, LA, LB⟩ ⟨o, dp, fp⟩ = true)) (d1 : ByteArray) (f1 : Bool) (l1 n1 : Int) (LA1 LB1 : List Rg) (HX : Hid (loss ⟨d, f, l, n, LA, LB⟩ ⟨o, dp, fp⟩ = ⟨d1, f1, l1, n1, LA1, LB1⟩)) :
    Calls Try.prog 23 #[.agg #[.string d, .bool f, .int .i64 l, .int .i64 n, .slice A LA.length ca, .slice B LB.length cb], .agg #[.int .i64 o, .string dp, .bool fp]] w (GotSb w (⟨d1, f1, l1, n1, LA1, LB1⟩, true)) := by
  have hsv := hid_of (sentOk_iff.1 HV.out).1
  have hst := hid_of (sentOk_iff.1 HV.out).2
  obtain ⟨ls, hls⟩ : ∃ x, Pt.last ⟨o, dp, fp⟩ = x := ⟨_, rfl⟩
  have HLS := hid_of hls
  obtain ⟨⟨h1, h2⟩, h3, h4, h5⟩ := hst.out.bd hsv.out
  obtain ⟨_, _, _, h6, h7⟩ := hsv.out.bd
  rw [hls] at h4 h5
  dsimp only at h1 h2 h3 h4 h6 h7
  have HI0 : Hid (LInv LB) := LInv.of hsv.out.b
  obtain ⟨T, hT⟩ : ∃ T, lose LA (ls + 1 - o).toNat o LB = T := ⟨_, rfl⟩
  have HE : Hid (d = d1 ∧ f = f1 ∧ l = l1 ∧ n = n1 ∧ LA = LA1 ∧ T = LB1) := by
    have := HX.out
    unfold loss at this
    dsimp only at this
    rw [hls, hT] at this
    cases this
    exact ⟨rfl, rfl, rfl, rfl, rfl, rfl⟩
  have HT := hid_of hT
  clear hls HX hT
  have z := ((Own6.new (d := d) (f := f) (l := l) (n := n) (A := A) (na := LA.length) (ca := ca) (B := B) (nb := LB.length) (cb := cb) w).alloc (.cells #[.int .i64 o, .string dp, .bool fp] 29)).alloc (.cells #[.string (⟨#[]⟩ : ByteArray), .bool false, .int .i64 0, .int .i64 0, .slice none 0 0, .slice none 0 0] 25)
  have q := (Own3.new (w.alloc (.cells #[.string d, .bool f, .int .i64 l, .int .i64 n, .slice A LA.length ca, .slice B LB.length cb] 25)) o dp fp).alloc (.cells #[.string (⟨#[]⟩ : ByteArray), .bool false, .int .i64 0, .int .i64 0, .slice none 0 0, .slice none 0 0] 25)
  have r := Own6.new (d := (⟨#[]⟩ : ByteArray)) (f := false) (l := 0) (n := 0) (A := none) (na := 0) (ca := 0) (B := none) (nb := 0) (cb := 0) ((w.alloc (.cells #[.string d, .bool f, .int .i64 l, .int .i64 n, .slice A LA.length ca, .slice B LB.length cb] 25)).alloc (.cells #[.int .i64 o, .string dp, .bool fp] 29))
  rw [show (w.alloc (.cells #[.string d, .bool f, .int .i64 l, .int .i64 n, .slice A LA.length ca, .slice B LB.length cb] 25)).heap.size = w.heap.size + 1 from by simp] at q
  rw [show ((w.alloc (.cells #[.string d, .bool f, .int .i64 l, .int .i64 n, .slice A LA.length ca, .slice B LB.length cb] 25)).alloc (.cells #[.int .i64 o, .string dp, .bool fp] 29)).heap.size = w.heap.size + 1 + 1 from by simp] at r
  have hW0 : Below w.heap.size w _ := (((Below.refl _ w).alloc (Nat.le_refl _) (.cells #[.string d, .bool f, .int .i64 l, .int .i64 n, .slice A LA.length ca, .slice B LB.length cb] 25)).alloc (by simp) (.cells #[.int .i64 o, .string dp, .bool fp] 29)).alloc (by simp; omega) (.cells #[.string (⟨#[]⟩ : ByteArray), .bool false, .int .i64 0, .int .i64 0, .slice none 0 0, .slice none 0 0] 25)
  have hsz : (((w.alloc (.cells #[.string d, .bool f, .int .i64 l, .int .i64 n, .slice A LA.length ca, .slice B LB.length cb] 25)).alloc (.cells #[.int .i64 o, .string dp, .bool fp] 29)).alloc (.cells #[.string (⟨#[]⟩ : ByteArray), .bool false, .int .i64 0, .int .i64 0, .slice none 0 0, .slice none 0 0] 25)).heap.size = w.heap.size + 1 + 1 + 1 := by simp
  go_enter Try.func23, Try.ntmps23
  have HZ := hid_of z
  have HQ := hid_of q
  have HR := hid_of r
  obtain ⟨⟨z0, z1, z2, z3, z4, z5⟩, zf⟩ := HZ.out
  obtain ⟨⟨q0, q1, q2⟩, qf⟩ := HQ.out
  clear z q r
  go_wp2_with (first
    | (go_at_call 33; (with_reducible refine (psent_i HV.out _ (hA.below hW0) (hB.below hW0) hn hn' hdp).mono ?_); rintro e w1 ⟨rfl, hb1⟩; have HZ1 := hid_of (HZ.out.under hb1 (by omega)); have HQ1 := hid_of (HQ.out.under hb1 (by omega)); have HR1 := hid_of (HR.out.under hb1 (by omega)); have hw1 := hW0.trans (hb1.mono hW0.size); have hs1 : w.heap.size + 1 + 1 + 1 ≤ w1.heap.size := (by have := hb1.size; omega); clear z0 z1 z2 z3 z4 z5 zf q0 q1 q2 qf hb1; obtain ⟨⟨z0, z1, z2, z3, z4, z5⟩, zf⟩ := HZ1.out)
    | (go_at_call 49; (with_reducible refine (copy_i d f l n LA LB A ca B cb _ (hA.below hw1) (hB.below hw1) eA eB (by omega) (by omega)).mono ?_); rintro e w2 ⟨⟨_, rfl, A1, c1, B1, c2, rfl, hI1, hJ1, hap⟩, hb2⟩; have HZ2 := hid_of (HZ1.out.under hb2 (by omega)); have HQ2 := hid_of (HQ1.out.under hb2 (by omega)); have HR2 := hid_of (HR1.out.under hb2 (by omega)); have hw2 := hw1.trans (hb2.mono hw1.size); have hs2 : w.heap.size + 1 + 1 + 1 ≤ w2.heap.size := (by have := hb2.size; omega); have hI1 : RngIn w2 (w.heap.size + 1 + 1 + 1) w2.heap.size A1 LA.length c1 LA := hI1.mono (by omega) (Nat.le_refl _); have hJ1 : RngIn w2 (w.heap.size + 1 + 1 + 1) w2.heap.size B1 LB.length c2 LB := hJ1.mono (by omega) (Nat.le_refl _); have q0 := (HQ2.out.alloc (.cells #[.string d, .bool f, .int .i64 l, .int .i64 n, .slice A1 LA.length c1, .slice B1 LB.length c2] 25)).1.1; clear z0 z1 z2 z3 z4 z5 zf hb2))
  have HS : Hid (LS w _ w2.heap.size d f l n LA LB A ca B cb o dp fp A1 c1 LB B1 c2) := ⟨HZ2.out.alloc _, HQ2.out.alloc _, HR2.out.alloc _, Own6.new w2, hI1.alloc _, (hJ1.alloc _).mono (Nat.le_refl _) (by simp), hap, ba hw2 _, hs2, by simp⟩
  clear hI1 hJ1 hap HZ HQ HR HZ1 HQ1 HR1 HZ2 HQ2 HR2
  clear q0
  go_loopw [7] (fun i wr => ∃ (j : Int) (M : List Rg) (Bk : Option Addr) (ck : Nat), i = .int .i64 j ∧ o ≤ j ∧ j ≤ ls + 1 ∧ Hid (lose LA (ls + 1 - j).toNat j M = T) ∧ Hid (LInv M) ∧ Hid (LS w wr w2.heap.size d f l n LA LB A ca B cb o dp fp A1 c1 M Bk ck)) (fun i _ => (ls + 1 - intOf i).toNat)
  case atStart => exact ⟨o, LB, B1, c2, rfl, Int.le_refl _, by omega, HT, HI0, HS⟩
  case round =>
    obtain ⟨j, M, Bk, ck, rfl, hj0, hj1, HM, HI, HS⟩ := hrel
    clear HT
    obtain ⟨⟨q0, q1, q2⟩, qf⟩ := HS.out.q
    have hw := HS.out.bw
    have hx1 := HS.out.x
    have hx2 := HS.out.lt
    by_cases hlt : j ≤ ls
    · have HM : Hid (lose LA (ls + 1 - (j + 1)).toNat (j + 1) (if memB LA j = true then M else add M j j) = T) := (lose_step hlt).symm.trans HM.out
      obtain ⟨b, hb⟩ : ∃ b, memB LA j = b := ⟨_, rfl⟩
      rw [hb] at HM
      have HBB := hid_of hb
      clear hb
      cases b with
      | true =>
        go_wp2_with (first
          | (go_at_call 52; (with_reducible refine (last_v_j HLS.out _ ⟨by omega, by omega⟩ (by omega)).mono ?_); rintro e w5 ⟨rfl, hx5⟩; have hb5 : Below wr.heap.size wr w5 := (by obtain ⟨y, rfl⟩ := hx5; go_grown); have S1 := HS.out.below hb5; have S1 := hid_of S1; obtain ⟨⟨z0, z1, z2, z3, z4, z5⟩, zf⟩ := S1.out.z; clear q0 q1 q2 qf z0 z1 z2 z3 z5 zf hx5)
          | (go_at_call 62; (with_reducible refine (has_v' HBB.out _ (hA.below S1.out.bw) (by omega)).mono ?_); rintro e w6 ⟨rfl, hb6⟩; have S2 := S1.out.below hb6))
        go_roundw
        case rel => exact ⟨j + 1, M, Bk, ck, by go_num, by omega, by omega, HM, HI, S2⟩
        case measure => simp [intOf]; omega
      | false =>
        go_wp2_with (first
          | (go_at_call 52; (with_reducible refine (last_v_j HLS.out _ ⟨by omega, by omega⟩ (by omega)).mono ?_); rintro e w5 ⟨rfl, hx5⟩; have hb5 : Below wr.heap.size wr w5 := (by obtain ⟨y, rfl⟩ := hx5; go_grown); have S1 := HS.out.below hb5; have S1 := hid_of S1; obtain ⟨⟨z0, z1, z2, z3, z4, z5⟩, zf⟩ := S1.out.z; clear q0 q1 q2 qf z0 z1 z2 z3 z5 zf hx5)
          | (go_at_call 62; (with_reducible refine (has_v' HBB.out _ (hA.below S1.out.bw) (by omega)).mono ?_); rintro e w6 ⟨rfl, hb6⟩; have S2 := S1.out.below hb6; obtain ⟨⟨o0, o1, o2, o3, o4, o5⟩, of⟩ := S2.o; clear z4 o0 o1 o2 o3 o4)
          | (go_at_call 63; (with_reducible refine (added_v rfl Bk ck _ S2.b.reads (by have := HI.out.len; omega) ⟨by omega, by omega⟩ ⟨by omega, by omega⟩ HI.out.wide (fun e => S2.b.none_cap e) S2.b.cap.1).mono ?_); rintro e w7 ⟨B2, c3, rfl, hI7, hb7⟩; have S3 := S2.below hb7; have hs6 : w2.heap.size < w6.heap.size := S2.lt; obtain ⟨⟨o0, o1, o2, o3, o4, o5⟩, of⟩ := S3.o; clear o0 o1 o2 o3 o4))
        go_roundw
        case rel => exact ⟨j + 1, add M j j, B2, c3, by go_num, by omega, by omega, HM, HI.out.add (by omega) (by omega), S3.put hs6 hI7⟩
        case measure => simp [intOf]; omega
    · obtain rfl : j = ls + 1 := by omega
      have HM : Hid (M = T) := lose_end.symm.trans HM.out
      go_wp2_with (first
          | (go_at_call 52; (with_reducible refine (last_v_j HLS.out _ ⟨by omega, by omega⟩ (by omega)).mono ?_); rintro e w5 ⟨rfl, hx5⟩; have hb5 : Below wr.heap.size wr w5 := (by obtain ⟨y, rfl⟩ := hx5; go_grown); have S1 := HS.out.below hb5; have S1 := hid_of S1; obtain ⟨⟨r0, r1, r2, r3, r4, r5⟩, rf⟩ := S1.out.r; obtain ⟨⟨o0, o1, o2, o3, o4, o5⟩, of⟩ := S1.out.o; clear q0 q1 q2 qf hx5))
      try simp only [Exit.inBlock, Exit.then]
      obtain ⟨rfl, rfl, rfl, rfl, rfl, rfl⟩ := HE.out
      obtain rfl := HM.out
      refine bodyPost_ret (results_sb rfl rfl rfl (S1.out.r.setAll d f l n A1 LA.length c1 Bk M.length ck)) rfl ?_
      have ha := S1.out.a
      have hb := S1.out.b
      refine ⟨⟨_, rfl, A1, c1, Bk, ck, rfl, ?_, ?_, S1.out.ap⟩, ?_⟩
      · refine RngIn.mono (B := w.heap.size + 1 + 1 + 1) (S := w2.heap.size) ?_ (by omega) (by have := S1.out.lt; simp [World.setCell]; omega)
        repeat refine RngIn.setLow ?_ (by dsimp only; omega) _
        exact ha
      · refine RngIn.mono (B := w.heap.size + 1 + 1 + 1) (S := w5.heap.size) ?_ (by omega) (by simp [World.setCell])
        repeat refine RngIn.setLow ?_ (by dsimp only; omega) _
        exact hb
      · repeat refine Below.setCell ?_ (by dsimp only; omega) _
        exact S1.out.bw

theorem sloss_i (d : ByteArray) (f : Bool) (l n : Int) (LA LB : List Rg) (A : Option Addr) (ca : Nat) (B : Option Addr) (cb : Nat) (o : Int) (dp : ByteArray) (fp : Bool) (w : World) (hA : RngAt w A LA.length LA) (hB : RngAt w B LB.length LB) (eA : A = none → ca = 0) (eB : B = none → cb = 0) (hn : LA.length ≤ 2000000) (hn' : LB.length ≤ 2000000) (hdp : dp.size ≤ 2000000) :
    Calls Try.prog 23 #[.agg #[.string d, .bool f, .int .i64 l, .int .i64 n, .slice A LA.length ca, .slice B LB.length cb], .agg #[.int .i64 o, .string dp, .bool fp]] w (GotSb w (sendLoss ⟨d, f, l, n, LA, LB⟩ ⟨o, dp, fp⟩)) := by
  unfold sendLoss
  cases hv : sentOk ⟨d, f, l, n, LA, LB⟩ ⟨o, dp, fp⟩ with
  | false => rw [if_neg (by decide)]; exact sloss_i_bad d f l n LA LB A ca B cb o dp fp w hA hB eA eB hn hn' hdp hv
  | true => rw [if_pos rfl]; exact sloss_i_ok d f l n LA LB A ca B cb o dp fp w hA hB eA eB hn hn' hdp hv _ _ _ _ _ _ (hid_of rfl)

end Go.Proofs.Ytmkmaeblnnfheab
