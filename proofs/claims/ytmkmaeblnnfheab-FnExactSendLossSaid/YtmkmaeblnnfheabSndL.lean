/- A part is lost, by the reference. -/
import Derived.Test.YtmkmaeblnnfheabSndT
import Derived.Test.YtmkmaeblnnfheabSndLp
namespace Go.Proofs.Ytmkmaeblnnfheab
open Go.RowKit
attribute [local irreducible] Go.wpQuiet

set_option linter.unusedVariables false in
set_option maxRecDepth 100000 in
set_option maxHeartbeats 4000000 in
theorem l32Loss_w (d : ByteArray) (f : Bool) (l n : Int) (LA LB : List Rg) (A : Option Addr) (ca : Nat) (B : Option Addr) (cb : Nat) (o : Int) (dp : ByteArray) (fp : Bool) (ls : Int) (w : World) (hA : RngAt w A LA.length LA) (hB : RngAt w B LB.length LB) (eA : A = none → ca = 0) (eB : B = none → cb = 0) (hn : LA.length ≤ 100000) (hn' : LB.length ≤ 100000) (HLS : Hid (Pt.last ⟨o, dp, fp⟩ = ls)) (ho : 0 ≤ o ∧ o ≤ ls + 1) (hdp : dp.size ≤ 1000) (hls : -1 ≤ ls ∧ ls ≤ 999) (HI0 : Hid (LInv LB)) :
    Calls Try.prog 60 #[.agg #[.string d, .bool f, .int .i64 l, .int .i64 n, .slice A LA.length ca, .slice B LB.length cb], .agg #[.int .i64 o, .string dp, .bool fp]] w fun e w' => (∃ v, e = .returned v ∧ GotSd w ⟨d, f, l, n, LA, lose LA (ls + 1 - o).toNat o LB⟩ v w') ∧ Below w.heap.size w w' := by
  obtain ⟨ho0, ho1⟩ := ho
  obtain ⟨hls0, hls1⟩ := hls
  obtain ⟨T, hT⟩ : ∃ T, lose LA (ls + 1 - o).toNat o LB = T := ⟨_, rfl⟩
  have HT := hid_of hT
  rw [hT]
  clear hT
  have z := ((Own6.new (d := d) (f := f) (l := l) (n := n) (A := A) (na := LA.length) (ca := ca) (B := B) (nb := LB.length) (cb := cb) w).alloc (.cells #[.int .i64 o, .string dp, .bool fp] 29)).alloc (.cells #[.string (⟨#[]⟩ : ByteArray), .bool false, .int .i64 0, .int .i64 0, .slice none 0 0, .slice none 0 0] 25)
  have q := (Own3.new (w.alloc (.cells #[.string d, .bool f, .int .i64 l, .int .i64 n, .slice A LA.length ca, .slice B LB.length cb] 25)) o dp fp).alloc (.cells #[.string (⟨#[]⟩ : ByteArray), .bool false, .int .i64 0, .int .i64 0, .slice none 0 0, .slice none 0 0] 25)
  have r := Own6.new (d := (⟨#[]⟩ : ByteArray)) (f := false) (l := 0) (n := 0) (A := none) (na := 0) (ca := 0) (B := none) (nb := 0) (cb := 0) ((w.alloc (.cells #[.string d, .bool f, .int .i64 l, .int .i64 n, .slice A LA.length ca, .slice B LB.length cb] 25)).alloc (.cells #[.int .i64 o, .string dp, .bool fp] 29))
  rw [show (w.alloc (.cells #[.string d, .bool f, .int .i64 l, .int .i64 n, .slice A LA.length ca, .slice B LB.length cb] 25)).heap.size = w.heap.size + 1 from by simp] at q
  rw [show ((w.alloc (.cells #[.string d, .bool f, .int .i64 l, .int .i64 n, .slice A LA.length ca, .slice B LB.length cb] 25)).alloc (.cells #[.int .i64 o, .string dp, .bool fp] 29)).heap.size = w.heap.size + 1 + 1 from by simp] at r
  have hW0 : Below w.heap.size w _ := (((Below.refl _ w).alloc (Nat.le_refl _) (.cells #[.string d, .bool f, .int .i64 l, .int .i64 n, .slice A LA.length ca, .slice B LB.length cb] 25)).alloc (by simp) (.cells #[.int .i64 o, .string dp, .bool fp] 29)).alloc (by simp; omega) (.cells #[.string (⟨#[]⟩ : ByteArray), .bool false, .int .i64 0, .int .i64 0, .slice none 0 0, .slice none 0 0] 25)
  have hsz : (((w.alloc (.cells #[.string d, .bool f, .int .i64 l, .int .i64 n, .slice A LA.length ca, .slice B LB.length cb] 25)).alloc (.cells #[.int .i64 o, .string dp, .bool fp] 29)).alloc (.cells #[.string (⟨#[]⟩ : ByteArray), .bool false, .int .i64 0, .int .i64 0, .slice none 0 0, .slice none 0 0] 25)).heap.size = w.heap.size + 1 + 1 + 1 := by simp
  go_enter Try.func60, Try.ntmps60
  have HZ0 := hid_of z
  have HQ0 := hid_of q
  have HR0 := hid_of r
  have hw0 := hW0
  have hs0 := Nat.le_of_eq hsz.symm
  obtain ⟨⟨z0, z1, z2, z3, z4, z5⟩, zf⟩ := HZ0.out
  clear z q r
  go_wp2_with (first
    | (go_at_call 69; (with_reducible refine (copy_s d f l n LA LB A ca B cb _ (hA.below hw0) (hB.below hw0) eA eB (by omega) (by omega)).mono ?_); rintro e w1 ⟨⟨_, rfl, A1, c1, B1, c2, rfl, hI1, hJ1, hap⟩, hb1⟩; have HZ1 := hid_of (HZ0.out.under hb1 (by omega)); have HQ1 := hid_of (HQ0.out.under hb1 (by omega)); have HR1 := hid_of (HR0.out.under hb1 (by omega)); have hw1 := hw0.trans (hb1.mono hw0.size); have hs1 : w.heap.size + 1 + 1 + 1 ≤ w1.heap.size := (by have := hb1.size; omega); have hI1 : RngIn w1 (w.heap.size + 1 + 1 + 1) w1.heap.size A1 LA.length c1 LA := hI1.mono (by omega) (Nat.le_refl _); have hJ1 : RngIn w1 (w.heap.size + 1 + 1 + 1) w1.heap.size B1 LB.length c2 LB := hJ1.mono (by omega) (Nat.le_refl _); have q0 := (HQ1.out.alloc (.cells #[.string d, .bool f, .int .i64 l, .int .i64 n, .slice A1 LA.length c1, .slice B1 LB.length c2] 25)).1.1; clear z0 z1 z2 z3 z4 z5 zf hb1))
  have HS : Hid (LS w _ w1.heap.size d f l n LA LB A ca B cb o dp fp A1 c1 LB B1 c2) := ⟨HZ1.out.alloc _, HQ1.out.alloc _, HR1.out.alloc _, Own6.new w1, hI1.alloc _, (hJ1.alloc _).mono (Nat.le_refl _) (by simp), hap, ba hw1 _, hs1, by simp⟩
  clear hI1 hJ1 hap HZ0 HQ0 HR0 HZ1 HQ1 HR1
  clear q0
  go_loopw [6] (fun i wr => ∃ (j : Int) (M : List Rg) (Bk : Option Addr) (ck : Nat), i = .int .i64 j ∧ o ≤ j ∧ j ≤ ls + 1 ∧ Hid (lose LA (ls + 1 - j).toNat j M = T) ∧ Hid (LInv M) ∧ Hid (LS w wr w1.heap.size d f l n LA LB A ca B cb o dp fp A1 c1 M Bk ck)) (fun i _ => (ls + 1 - intOf i).toNat)
  case atStart => exact ⟨o, LB, B1, c2, rfl, Int.le_refl _, by omega, HT, HI0, HS⟩
  case round =>
    obtain ⟨j, M, Bk, ck, rfl, hj0, hj1, HM, HI, HS⟩ := hrel
    clear HT
    obtain ⟨⟨q0, q1, q2⟩, qf⟩ := HS.out.q
    have hw := HS.out.bw
    have hx1 := HS.out.x
    have hx2 := HS.out.lt
    by_cases hlt : j ≤ ls
    · have HM : Hid (lose LA (ls + 1 - (j + 1)).toNat (j + 1) (if memB LA j = true then M else add M j j) = T) := (lose_step hlt).symm.trans HM.out
      obtain ⟨b, hb⟩ : ∃ b, memB LA j = b := ⟨_, rfl⟩
      rw [hb] at HM
      have HBB := hid_of hb
      clear hb
      cases b with
      | true =>
        go_wp2_with (first
          | (go_at_call 79; (with_reducible refine (last_v_s HLS.out _ ⟨by omega, by omega⟩ (by omega)).mono ?_); rintro e w5 ⟨rfl, hx5⟩; have hb5 : Below wr.heap.size wr w5 := (by obtain ⟨y, rfl⟩ := hx5; go_grown); have S1 := HS.out.below hb5; have S1 := hid_of S1; obtain ⟨⟨z0, z1, z2, z3, z4, z5⟩, zf⟩ := S1.out.z; clear q0 q1 q2 qf z0 z1 z2 z3 z5 zf hx5)
          | (go_at_call 57; (with_reducible refine (l2Has_v HBB.out _ (hA.below S1.out.bw) (by omega)).mono ?_); rintro e w6 ⟨rfl, hb6⟩; have S2 := S1.out.below hb6))
        go_roundw
        case rel => exact ⟨j + 1, M, Bk, ck, by go_num, by omega, by omega, HM, HI, S2⟩
        case measure => simp [intOf]; omega
      | false =>
        go_wp2_with (first
          | (go_at_call 79; (with_reducible refine (last_v_s HLS.out _ ⟨by omega, by omega⟩ (by omega)).mono ?_); rintro e w5 ⟨rfl, hx5⟩; have hb5 : Below wr.heap.size wr w5 := (by obtain ⟨y, rfl⟩ := hx5; go_grown); have S1 := HS.out.below hb5; have S1 := hid_of S1; obtain ⟨⟨z0, z1, z2, z3, z4, z5⟩, zf⟩ := S1.out.z; clear q0 q1 q2 qf z0 z1 z2 z3 z5 zf hx5)
          | (go_at_call 57; (with_reducible refine (l2Has_v HBB.out _ (hA.below S1.out.bw) (by omega)).mono ?_); rintro e w6 ⟨rfl, hb6⟩; have S2 := S1.out.below hb6; obtain ⟨⟨o0, o1, o2, o3, o4, o5⟩, of⟩ := S2.o; clear z4 o0 o1 o2 o3 o4)
          | (go_at_call 80; (with_reducible refine (l2Add_v (spec_add HI.out.canon (Int.le_refl _)) Bk ck _ S2.b.reads (by have := HI.out.len; omega) ⟨by omega, by omega⟩ ⟨by omega, by omega⟩ HI.out.wide).mono ?_); rintro e w7 ⟨B2, c3, rfl, hI7, hb7⟩; have S3 := S2.below hb7; have hs6 : w1.heap.size < w6.heap.size := S2.lt; obtain ⟨⟨o0, o1, o2, o3, o4, o5⟩, of⟩ := S3.o; clear o0 o1 o2 o3 o4))
        go_roundw
        case rel => exact ⟨j + 1, add M j j, B2, c3, by go_num, by omega, by omega, HM, HI.out.add (by omega) (by omega), S3.put hs6 hI7⟩
        case measure => simp [intOf]; omega
    · obtain rfl : j = ls + 1 := by omega
      have HM : Hid (M = T) := lose_end.symm.trans HM.out
      go_wp2_with (first
          | (go_at_call 79; (with_reducible refine (last_v_s HLS.out _ ⟨by omega, by omega⟩ (by omega)).mono ?_); rintro e w5 ⟨rfl, hx5⟩; have hb5 : Below wr.heap.size wr w5 := (by obtain ⟨y, rfl⟩ := hx5; go_grown); have S1 := HS.out.below hb5; have S1 := hid_of S1; obtain ⟨⟨r0, r1, r2, r3, r4, r5⟩, rf⟩ := S1.out.r; obtain ⟨⟨o0, o1, o2, o3, o4, o5⟩, of⟩ := S1.out.o; clear q0 q1 q2 qf hx5))
      try simp only [Exit.inBlock, Exit.then]
      refine bodyPost_ret (results_snd rfl rfl (S1.out.r.setAll d f l n A1 LA.length c1 Bk M.length ck).1) rfl ?_
      rw [← HM.out]
      have ha := S1.out.a
      have hb := S1.out.b
      refine ⟨⟨_, rfl, A1, c1, Bk, ck, rfl, ?_, ?_, S1.out.ap⟩, ?_⟩
      · refine RngIn.mono (B := w.heap.size + 1 + 1 + 1) (S := w1.heap.size) ?_ (by omega) (by have := S1.out.lt; simp [World.setCell]; omega)
        repeat refine RngIn.setLow ?_ (by dsimp only; omega) _
        exact ha
      · refine RngIn.mono (B := w.heap.size + 1 + 1 + 1) (S := w5.heap.size) ?_ (by omega) (by simp [World.setCell])
        repeat refine RngIn.setLow ?_ (by dsimp only; omega) _
        exact hb
      · repeat refine Below.setCell ?_ (by dsimp only; omega) _
        exact S1.out.bw
end Go.Proofs.Ytmkmaeblnnfheab
