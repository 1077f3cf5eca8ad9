/- The walk of the law FnRecvAnyOrder. -/
import Derived.Test.YtmkmaeblnnfheaaLawKit
import Derived.Test.YtmkmaeblnnfheaaMg6
import Derived.Test.YtmkmaeblnnfheaaRcvK
import Derived.Test.YtmkmaeblnnfheaaTree
namespace Go.Proofs.Ytmkmaeblnnfheaa
open Go.RowKit
attribute [local irreducible] Go.wpQuiet

set_option linter.unusedVariables false in
set_option maxRecDepth 100000 in
set_option maxHeartbeats 8000000 in
theorem walkFnRecvAnyOrder (w : World) (a : Option Addr) (len cap : Nat) (zs : List Int) (h : IsRow .u8 w a len cap zs) (a' : Option Addr) (len' cap' : Nat) (zs' : List Int) (h' : IsRow .u8 w a' len' cap' zs') :
    Calls Try.prog 11 #[.slice a len cap, .slice a' len' cap'] w fun e w' => e = .returned (.bool true) ∧ Below w.heap.size w w' := by
  by_cases hllen : 1048576 < len
  · go_enter Try.func11, Try.ntmps11
    go_wp2
    go_ret
    exact ⟨rfl, Below.refl _ _⟩
  by_cases hllen' : 1048576 < len'
  · go_enter Try.func11, Try.ntmps11
    go_wp2
    go_ret
    exact ⟨rfl, Below.refl _ _⟩
  have hln0 : (len : Int) ≤ 1048576 := by omega
  have hln1 : (len' : Int) ≤ 1048576 := by omega
  have BEL : Below w.heap.size w w := Below.refl _ _
  go_enter Try.func11, Try.ntmps11
  go_wp2_with fail
  with_reducible refine (drawWrite_any _ a len cap zs h).mono ?_
  rintro e w1 ⟨d, f, l, n', LA, LB, A, ca, B, cb, _, rfl, ⟨D, rfl, hD⟩, ⟨hd, hA, hB⟩, hI, hJ, hb⟩
  have hsz1 := hb.size
  have BEL := BEL.trans (hb.mono BEL.size)
  have I0 := hid_of (In2.of hI hJ)
  clear hI hJ hb
  clear h h'
  go_upto_region 4 with (fail)
  generalize hW : World.alloc w1 _ = w2
  have hb : Below w1.heap.size w1 w2 := by rw [← hW]; exact ba (Below.refl _ _) _
  have I0 := hid_of (I0.out.grow hb)
  have BEL := BEL.trans (hb.mono BEL.size)
  have hsz2 : w1.heap.size + 1 ≤ w2.heap.size := by rw [← hW]; simp
  have X5 : Hid (Own6 w2 w1.heap.size d f l n' A LA.length ca B LB.length cb) := by rw [← hW]; exact hid_of (Own6.newT _ _)
  clear hW hb
  clear I0
  cases hd30 : decide ((30 : Int) < (d.size : Int)) with
  | true =>
    have hd30i : (30 : Int) < (d.size : Int) := of_decide_eq_true hd30
    obtain ⟨⟨c50, c51, c52, c53, c54, c55⟩, c5f⟩ := X5.out
    go_wp2_with fail
    go_ret
    exact ⟨rfl, BEL⟩
  | false =>
    have hd30i : ¬ ((30 : Int) < (d.size : Int)) := of_decide_eq_false hd30
    have hd30' : d.size ≤ 30 := by omega
    obtain ⟨aa, haa⟩ : ∃ x : Nat, len' % 7 = x := ⟨_, rfl⟩
    have r7 : ((len' : Nat) : Int).tmod 7 = (aa : Int) := by rw [Int.tmod_eq_emod_of_nonneg (by omega)]; omega
    have wa : IntKind.i64.wrap (aa : Int) = (aa : Int) := IntWalk.i64_in _ (by omega)
    obtain ⟨S, hS⟩ : ∃ S, 1 + aa = S := ⟨_, rfl⟩
    have hS1 : 1 ≤ S := by omega
    have hS7 : S ≤ 7 := by omega
    have wS : IntKind.i64.wrap (1 + (aa : Int)) = (S : Int) := by rw [show 1 + (aa : Int) = (S : Int) from by omega]; exact IntWalk.i64_in _ (by omega)
    obtain ⟨u, hu⟩ : ∃ x : Nat, d.size + S = x := ⟨_, rfl⟩
    have w44 : IntKind.i64.wrap ((d.size : Int) + (S : Int)) = (u : Int) := by rw [show (d.size : Int) + (S : Int) = (u : Int) from by omega]; exact IntWalk.i64_in _ (by omega)
    obtain ⟨v, hv⟩ : ∃ x : Nat, d.size + S - 1 = x := ⟨_, rfl⟩
    have w45 : IntKind.i64.wrap ((u : Int) - 1) = (v : Int) := by rw [show (u : Int) - 1 = (v : Int) from by omega]; exact IntWalk.i64_in _ (by omega)
    obtain ⟨p0, hp0⟩ : ∃ x : Nat, v / S = x := ⟨_, rfl⟩
    have hp0v : p0 ≤ v := by rw [← hp0]; exact Nat.div_le_self _ _
    have r47 : ((v : Nat) : Int).tdiv (S : Int) = (p0 : Int) := by rw [Int.tdiv_eq_ediv_of_nonneg (by omega), ← hp0]; exact (Int.natCast_ediv v S).symm
    have w47 : IntKind.i64.wrap (p0 : Int) = (p0 : Int) := IntWalk.i64_in _ (by omega)
    have nS : ¬ ((S : Int) = 0) := by omega
    have nS' : ((S : Int) == 0) = false := by rw [beq_eq_false_iff_ne]; omega
    have nS2 : ¬ (S = 0) := by omega
    obtain ⟨P, hP⟩ : ∃ x : Nat, max p0 1 = x := ⟨_, rfl⟩
    have hmx : (if (p0 : Int) < 1 then 1 else (p0 : Int)) = (P : Int) := by rw [← hP]; split <;> omega
    have hFI : Fits d.size S P := by rw [← hP, ← hp0, ← hv]; exact fits_of hS1 hS7
    have HFI := hid_of hFI
    have hP1 : 1 ≤ P := hFI.p0
    have hP37 : P ≤ 37 := by omega
    obtain ⟨bb, hbb⟩ : ∃ x : Nat, len' % 3 = x := ⟨_, rfl⟩
    have r3 : ((len' : Nat) : Int).tmod 3 = (bb : Int) := by rw [Int.tmod_eq_emod_of_nonneg (by omega)]; omega
    have wb : IntKind.i64.wrap (bb : Int) = (bb : Int) := IntWalk.i64_in _ (by omega)
    obtain ⟨m, hm⟩ : ∃ x, 1 + bb = x := ⟨_, rfl⟩
    have hm13 : 1 ≤ m ∧ m ≤ 3 := by omega
    have wm : IntKind.i64.wrap (1 + (bb : Int)) = (m : Int) := by rw [show 1 + (bb : Int) = (m : Int) from by omega]; exact IntWalk.i64_in _ (by omega)
    clear hFI haa hS hu hv hp0 hP hbb hm
    obtain ⟨⟨c50, c51, c52, c53, c54, c55⟩, c5f⟩ := X5.out
    go_wp2_with fail
    clear c50 c51 c52 c53 c54 c55 c5f
    with_reducible refine (rnew_i _).mono ?_
    rintro e w3 ⟨rfl, hb⟩
    have hsz3 := hb.size
    have X5 := hid_of (X5.out.grow hb)
    have BEL := BEL.trans (hb.mono BEL.size)
    clear hb
    go_upto_region 10 with (fail)
    generalize hW : World.alloc w3 _ = w4
    have hb : Below w3.heap.size w3 w4 := by rw [← hW]; exact ba (Below.refl _ _) _
    have BEL := BEL.trans (hb.mono BEL.size)
    obtain ⟨xr, hxr⟩ : ∃ x, w3.heap.size = x := ⟨_, rfl⟩
    have X : Hid (Own4 w4 xr 0 none 0 0 (-1) 30) := by rw [← hW, ← hxr]; exact hid_of (Own4.newT _ _)
    have hsx : xr + 1 ≤ w4.heap.size := by rw [← hW, ← hxr]; simp
    have hwx : w.heap.size ≤ xr := by omega
    rw [hxr]
    clear hW hb hxr X5
    go_wp2_with fail
    go_loopw [12] (fun i wr => ∃ (k : Nat) (L : List Rg) (F : Int) (A : Option Addr) (c : Nat), i = .int .i64 (k : Nat) ∧ k ≤ P ∧ Hid (Cov d S P m len k L F) ∧ Hid (PcIn wr (xr + 1) wr.heap.size A L.length c (pcs d L)) ∧ Hid (Own4 wr xr 0 A L.length c F 30) ∧ Below w.heap.size w wr ∧ xr + 1 ≤ wr.heap.size) (fun i _ => P - (intOf i).toNat)
    case atStart => exact ⟨0, [], -1, none, 0, rfl, Nat.zero_le _, hid_of (cov_start hd30'), hid_of (PcIn.empty _ _ _ _), X, BEL, hsx⟩
    case round =>
      clear X BEL hsx
      obtain ⟨k, L, F, A, c, rfl, hk, HCV, HPC, X, BEL, hsx⟩ := hrel
      rename World => wq
      have hfew := HCV.out.x.few
      by_cases hlt : k < P
      · skip
        have S0 : Hid (RS w wq xr A L.length c F) := hid_of ⟨X.out, BEL, hsx, hwx⟩
        obtain ⟨km, hkm⟩ : ∃ x : Nat, k * m = x := ⟨_, rfl⟩
        have hkmb : km ≤ 37 * 3 := by rw [← hkm]; exact Nat.mul_le_mul (by omega) hm13.2
        have w63 : IntKind.i64.wrap ((k : Int) * (m : Int)) = (km : Int) := by rw [show (k : Int) * (m : Int) = (km : Int) from by rw [← hkm]; exact (Int.natCast_mul k m).symm]; exact IntWalk.i64_in _ (by omega)
        obtain ⟨v2, hv2⟩ : ∃ x : Nat, km + len = x := ⟨_, rfl⟩
        have w66 : IntKind.i64.wrap ((km : Int) + (len : Int)) = (v2 : Int) := by rw [show (km : Int) + (len : Int) = (v2 : Int) from by omega]; exact IntWalk.i64_in _ (by omega)
        obtain ⟨k0, hk0⟩ : ∃ x : Nat, v2 % P = x := ⟨_, rfl⟩
        have hk0P : k0 < P := by rw [← hk0]; exact Nat.mod_lt _ (by omega)
        have r68 : ((v2 : Nat) : Int).tmod (P : Int) = (k0 : Int) := by rw [Int.tmod_eq_emod_of_nonneg (by omega), ← hk0]; exact (Int.natCast_emod v2 P).symm
        have w68 : IntKind.i64.wrap (k0 : Int) = (k0 : Int) := IntWalk.i64_in _ (by omega)
        have nP : ¬ ((P : Int) = 0) := by omega
        have nP' : ((P : Int) == 0) = false := by rw [beq_eq_false_iff_ne]; omega
        have nP2 : ¬ (P = 0) := by omega
        obtain ⟨Pm, hPm⟩ : ∃ x : Nat, P - 1 = x := ⟨_, rfl⟩
        have wPm : IntKind.i64.wrap ((P : Int) - 1) = (Pm : Int) := by rw [show (P : Int) - 1 = (Pm : Int) from by omega]; exact IntWalk.i64_in _ (by omega)
        obtain ⟨kr, hkr⟩ : ∃ x : Nat, P - 1 - k = x := ⟨_, rfl⟩
        have wkr : IntKind.i64.wrap ((Pm : Int) - (k : Int)) = (kr : Int) := by rw [show (Pm : Int) - (k : Int) = (kr : Int) from by omega]; exact IntWalk.i64_in _ (by omega)
        have HKR := hid_of hkr
        have HPM : Hid (Pm + 1 = P) := hid_of (by omega)
        have HK0 : Hid ((k * m + len) % P = k0) := by rw [hkm, hv2]; exact hid_of hk0
        clear hkm hv2 hk0 hkr hPm
        rcases (show P % 2 = 0 ∨ P % 2 = 1 from by omega) with e2 | e2
        · skip
          have q2 : ((P : Nat) : Int).tmod 2 = 0 := by rw [Int.tmod_eq_emod_of_nonneg (by omega)]; omega

          have hk0 : kf P m len k = kr := by unfold kf; rw [if_pos (by omega)]; exact HKR.out
          have hkk : kr < P := by rw [← hk0]; exact kf_lt (by omega)
          have HK := hid_of hk0
          clear hk0
          obtain ⟨kk1, hkk1⟩ : ∃ x : Nat, kr + 1 = x := ⟨_, rfl⟩
          have w82 : IntKind.i64.wrap ((kr : Int) + 1) = (kk1 : Int) := by rw [show (kr : Int) + 1 = (kk1 : Int) from by omega]; exact IntWalk.i64_in _ (by omega)
          obtain ⟨e0, he0⟩ : ∃ x : Nat, kk1 * S = x := ⟨_, rfl⟩
          have he0b : e0 ≤ 37 * 7 := by rw [← he0]; exact Nat.mul_le_mul (by omega) hS7
          have w84 : IntKind.i64.wrap ((kk1 : Int) * (S : Int)) = (e0 : Int) := by rw [show (kk1 : Int) * (S : Int) = (e0 : Int) from by rw [← he0]; exact (Int.natCast_mul kk1 S).symm]; exact IntWalk.i64_in _ (by omega)
          obtain ⟨ee, hee⟩ : ∃ x : Int, (if (d.size : Int) < (e0 : Int) then (d.size : Int) else (e0 : Int)) = x := ⟨_, rfl⟩
          have hee2 : (if d.size < e0 then (d.size : Int) else (e0 : Int)) = ee := by rw [← hee]; split <;> split <;> omega
          obtain ⟨l0, hl0⟩ : ∃ x : Nat, kr * S = x := ⟨_, rfl⟩
          have hat := HFI.out.at_ hkk
          rw [hl0, hkk1, he0] at hat
          have hl0e : e0 = l0 + S := by rw [← he0, ← hkk1, ← hl0]; exact Nat.succ_mul kr S
          have w92 : IntKind.i64.wrap ((kr : Int) * (S : Int)) = (l0 : Int) := by rw [show (kr : Int) * (S : Int) = (l0 : Int) from by rw [← hl0]; exact (Int.natCast_mul kr S).symm]; exact IntWalk.i64_in _ (by omega)
          have s0 : (0 : Int) ≤ (l0 : Int) := by omega
          have s1 : (l0 : Int) ≤ ee := by rw [← hee]; split <;> omega
          have s2 : ee ≤ (d.size : Int) := by rw [← hee]; split <;> omega
          have s3 : ee ≤ (l0 : Int) + 12 := by rw [← hee]; split <;> omega
          have hPM := HPM.out
          obtain ⟨fin, hfin⟩ : ∃ b, ((kr : Int) == (Pm : Int)) = b := ⟨_, rfl⟩
          have hfin2 : (kr == Pm) = fin := by rw [← hfin, Bool.eq_iff_iff, beq_iff_eq, beq_iff_eq]; omega
          have hfin3 : decide (kr = Pm) = fin := by rw [← hfin, Bool.eq_iff_iff, decide_eq_true_iff, beq_iff_eq]; omega
          have hdat : Hid (d.extract l0 ee.toNat = d.extract ((l0 : Int)).toNat ee.toNat) := hid_of (by rw [Int.toNat_natCast])
          have hend : fin = true → ee = d.size := fun e => by
            rw [← hfin, beq_iff_eq] at e
            have := hat.2 (by omega)
            rw [← hee]
            split <;> omega
          have hmin : min (e0 : Int) (d.size : Int) = ee := by rw [← hee]; split <;> omega
          have hstep := HCV.out.step HFI.out HK.out (lo := (l0 : Int)) (e := ee) (fin := fin) (by rw [hl0]) (by rw [hkk1, he0]; exact hmin) (by rw [← hfin, show (P : Int) - 1 = (Pm : Int) from by omega])
          have hF := HCV.out.f
          obtain ⟨M, hM⟩ : ∃ M, (if (l0 : Int) < ee then add L (l0 : Int) (ee - 1) else L) = M := ⟨_, rfl⟩
          obtain ⟨G, hG⟩ : ∃ G, (if fin = true then (d.size : Int) else F) = G := ⟨_, rfl⟩
          rw [hM, hG] at hstep
          have HST := hid_of hstep
          have HM := hid_of hM
          have HG := hid_of hG
          have HF := hid_of hF
          have HEND := hid_of hend
          have HKP := hid_of hkk
          have HX := hid_of HCV.out.x
          clear hstep hM hG hF hend hat hl0e hmin hkk1 he0 hl0 hPM hkk
          obtain ⟨⟨x0, x1, x2, x3⟩, xf⟩ := X.out
          go_wp2_with fail
          have inst : Nonempty (In (fun y => Own4 y xr 0 A L.length c F 30)) := ⟨⟨wq, X.out⟩⟩
          have u0 := fun z : In (fun y => Own4 y xr 0 A L.length c F 30) => z.h.1.1
          have u1 := fun z : In (fun y => Own4 y xr 0 A L.length c F 30) => z.h.1.2.1
          have u2 := fun z : In (fun y => Own4 y xr 0 A L.length c F 30) => z.h.1.2.2.1
          have u3 := fun z : In (fun y => Own4 y xr 0 A L.length c F 30) => z.h.1.2.2.2
          refine wp_region_tree (fun y => Own4 y xr 0 A L.length c F 30) (fun y => ∃ j, y = { wq with drawn := j }) (.two [0, 1, 2, 3, 4, 5, 6, 7, 8, 9, 10, 11, 12, 13] 14 (.one [15, 16, 17] 18 (.one [] 19 (.last [20]))) 18 (.one [] 14 (.one [15, 16, 17] 19 (.last [20])))) (by kernel_rfl) (by kernel_rfl) (fun y hy => by obtain ⟨j, rfl⟩ := hy; exact X.out) (fun j => ⟨j, rfl⟩) ?_
          simp only [TreeW, TurnsAt, opsAt, List.filterMap_cons, List.filterMap_nil, List.getElem?_cons_zero, List.getElem?_cons_succ]
          repeat (quiet_step (fail))
          refine wpQuiet_nil ?_
          clear inst u0 u1 u2 u3 x0 x1 x2 x3 xf
          refine ⟨?call, ?room⟩
          case call =>
            refine ⟨_, rfl, rfl, turns_step2 fun Z hZ y5 h5 => ?_⟩
            obtain ⟨j5, rfl⟩ := h5
            have S5 := hid_of (S0.out.drawnN j5)
            have P5 : PcAt { wq with drawn := j5 } A L.length (pcs d L) := HPC.out.reads
            clear S0
            go_simp
            with_reducible refine (put_v HX.out HF.out s0 s1 s2 s3 HEND.out hdat.out HM.out HG.out _ P5 (fun e => HPC.out.none_cap e)).mono ?_
            rintro e y6 ⟨A6, c6, rfl, hI, hb⟩
            have S6 := hid_of (S5.out.grow hb)
            have hs5 := S5.out.s
            have hs6 := hb.size
            have hI := hid_of hI
            clear P5 S5 hb
            refine hZ (fun y => Own4 y xr 0 A L.length c F 30) (fun y => y = y6) _ _ rfl (fun y e => by rw [e]; exact S6.out.x) (fun _ hx => hx) ?_
            clear hZ Z
            have inst : Nonempty (In (fun y => Own4 y xr 0 A L.length c F 30)) := ⟨⟨y6, S6.out.x⟩⟩
            repeat (quiet_step (fail))
            refine wpQuiet_nil ?_
            clear inst
            refine ⟨_, rfl, rfl, turns_step2 fun Z hZ y7 h7 => ?_⟩
            subst h7
            go_simp
            have hb : Below y7.heap.size y7 (y7.alloc (.cells #[.int .i64 0, .slice none 0 0, .int .i64 0, .int .i64 0] 58)) := (Below.refl _ _).alloc (Nat.le_refl _) _
            have S8 := hid_of (S6.out.grow hb)
            have Q8 : Hid (∃ lo hi, QS (y7.alloc (.cells #[.int .i64 0, .slice none 0 0, .int .i64 0, .int .i64 0] 58)) xr y7.heap.size A6 M.length c6 lo hi (pcs d M)) := hid_of ⟨_, _, hI.out.below hb, hs5, hb.size, .inl (Nat.le_refl _)⟩
            have V8 : Hid (Own4 (y7.alloc (.cells #[.int .i64 0, .slice none 0 0, .int .i64 0, .int .i64 0] 58)) y7.heap.size 0 none 0 0 0 0) := hid_of (Own4.newT _ _)
            obtain ⟨xb, hxb⟩ : ∃ x, y7.heap.size = x := ⟨_, rfl⟩
            have hxx : xr < xb := by rw [← hxb]; exact Nat.lt_of_succ_le S6.out.s
            generalize hW : World.alloc y7 _ = y8 at *
            rw [hxb] at Q8 V8 ⊢
            clear hW hxb S6 hI hb hs5 hs6
            refine hZ (fun y => Own4 y xr 0 A L.length c F 30) (fun y => y = y8) _ _ rfl (fun y e => by rw [e]; exact S8.out.x) (fun _ hx => hx) ?_
            clear hZ Z
            refine wpQuiet_nil ?_
            refine ⟨_, rfl, rfl, turns_step2 fun Z hZ z8 h8 => ?_⟩
            subst h8
            obtain ⟨⟨v0, v1, v2, v3⟩, vf⟩ := V8.out
            go_simp
            have S9 := hid_of (S8.out.store4 hxx (.int .i64 0) (.slice A6 M.length c6) (.int .i64 G) (.int .i64 30))
            have V9 := hid_of (V8.out.setAll 0 A6 M.length c6 G 30)
            have Q9 : Hid (∃ lo hi, QS ((((z8.setCell ⟨xb, 0, none⟩ (.int .i64 0)).setCell ⟨xb, 1, none⟩ (.slice A6 M.length c6)).setCell ⟨xb, 2, none⟩ (.int .i64 G)).setCell ⟨xb, 3, none⟩ (.int .i64 30)) xr xb A6 M.length c6 lo hi (pcs d M)) := hid_of (Q8.out.elim fun lo h => h.elim fun hi h => ⟨lo, hi, h.store4 _ _ _ _⟩)
            generalize hW : World.setCell (World.setCell (World.setCell (World.setCell z8 _ _) _ _) _ _) _ _ = z9 at *
            clear hW v0 v1 v2 v3 vf S8 V8 Q8
            refine hZ (fun y => y = z9) (fun y => y = z9) _ _ rfl (fun _ hx => hx) (fun y e => by rw [e]; exact S9.out.x) ?_
            clear hZ Z
            have inst : Nonempty (In (fun y => y = z9)) := ⟨⟨z9, rfl⟩⟩
            repeat (quiet_step (fail))
            refine wpQuiet_nil ?_
            clear inst
            refine seq_last (C := fun y => y = z9) fun zz ez => ?_
            subst ez
            obtain ⟨⟨x0, x1, x2, x3⟩, xf⟩ := S9.out.x
            obtain ⟨⟨v0, v1, v2, v3⟩, vf⟩ := V9.out
            go_upto_region 12 with (fail)
            have S10 := hid_of (S9.out.last4 A6 M.length c6 G)
            have Q10 : Hid (PcIn ((((zz.setCell ⟨xr, 0, none⟩ (.int .i64 0)).setCell ⟨xr, 1, none⟩ (.slice A6 M.length c6)).setCell ⟨xr, 2, none⟩ (.int .i64 G)).setCell ⟨xr, 3, none⟩ (.int .i64 30)) (xr + 1) ((((zz.setCell ⟨xr, 0, none⟩ (.int .i64 0)).setCell ⟨xr, 1, none⟩ (.slice A6 M.length c6)).setCell ⟨xr, 2, none⟩ (.int .i64 G)).setCell ⟨xr, 3, none⟩ (.int .i64 30)).heap.size A6 M.length c6 (pcs d M)) := hid_of (Q9.out.elim fun lo h => h.elim fun hi h => h.last4 _ _ _ _)
            generalize hW : World.setCell (World.setCell (World.setCell (World.setCell zz _ _) _ _) _ _) _ _ = z10 at *
            clear hW x0 x1 x2 x3 xf v0 v1 v2 v3 vf S9 V9 Q9
            go_wp2_with fail
            go_roundw
            case rel => exact ⟨k + 1, M, G, A6, c6, by go_num, by omega, HST, Q10, hid_of S10.out.x, S10.out.b, S10.out.s⟩
            case measure => simp [intOf]; omega
          case room =>
            refine ⟨_, rfl, rfl, turns_step2 fun Z hZ y5 h5 => ?_⟩
            obtain ⟨j5, rfl⟩ := h5
            have S5 := hid_of (S0.out.drawnN j5)
            have P5 : PcAt { wq with drawn := j5 } A L.length (pcs d L) := HPC.out.reads
            clear S0
            generalize hy : World.mk _ _ _ _ _ = y7 at *
            go_simp
            have hb : Below y7.heap.size y7 (y7.alloc (.cells #[.int .i64 0, .slice none 0 0, .int .i64 0, .int .i64 0] 58)) := (Below.refl _ _).alloc (Nat.le_refl _) _
            have S6 := hid_of (S5.out.grow hb)
            have P6 := P5.below hb
            have V6 : Hid (Own4 (y7.alloc (.cells #[.int .i64 0, .slice none 0 0, .int .i64 0, .int .i64 0] 58)) y7.heap.size 0 none 0 0 0 0) := hid_of (Own4.newT _ _)
            obtain ⟨xb, hxb⟩ : ∃ x, y7.heap.size = x := ⟨_, rfl⟩
            have hxx : xr < xb := by rw [← hxb]; exact Nat.lt_of_succ_le S5.out.s
            have hsz : xb + 1 ≤ (y7.alloc (.cells #[.int .i64 0, .slice none 0 0, .int .i64 0, .int .i64 0] 58)).heap.size := by rw [← hxb]; simp
            generalize hW : World.alloc y7 _ = y6 at *
            rw [hxb] at V6 ⊢
            clear hW hxb hb P5 S5
            refine hZ (fun y => Own4 y xr 0 A L.length c F 30) (fun y => y = y6) _ _ rfl (fun y e => by rw [e]; exact S6.out.x) (fun _ hx => hx) ?_
            clear hZ Z
            refine wpQuiet_nil ?_
            refine ⟨_, rfl, rfl, turns_step2 fun Z hZ y8 h8 => ?_⟩
            subst h8
            go_simp
            with_reducible refine (put_v HX.out HF.out s0 s1 s2 s3 HEND.out hdat.out HM.out HG.out _ P6 (fun e => HPC.out.none_cap e)).mono ?_
            rintro e y9 ⟨A6, c6, rfl, hI, hb⟩
            have S8 := hid_of (S6.out.grow hb)
            have V8 := hid_of (V6.out.grow hb)
            have Q8 : Hid (∃ lo hi, QS y9 xr xb A6 M.length c6 lo hi (pcs d M)) := hid_of ⟨_, _, hI, by omega, Nat.le_refl _, .inr hsz⟩
            clear hI hb S6 V6 P6 hsz
            refine hZ (fun y => Own4 y xr 0 A L.length c F 30) (fun y => y = y9) _ _ rfl (fun y e => by rw [e]; exact S8.out.x) (fun _ hx => hx) ?_
            clear hZ Z
            have inst : Nonempty (In (fun y => Own4 y xr 0 A L.length c F 30)) := ⟨⟨y9, S8.out.x⟩⟩
            repeat (quiet_step (fail))
            refine wpQuiet_nil ?_
            clear inst
            refine ⟨_, rfl, rfl, turns_step2 fun Z hZ z8 h8 => ?_⟩
            subst h8
            obtain ⟨⟨v0, v1, v2, v3⟩, vf⟩ := V8.out
            go_simp
            have S9 := hid_of (S8.out.store4 hxx (.int .i64 0) (.slice A6 M.length c6) (.int .i64 G) (.int .i64 30))
            have V9 := hid_of (V8.out.setAll 0 A6 M.length c6 G 30)
            have Q9 : Hid (∃ lo hi, QS ((((z8.setCell ⟨xb, 0, none⟩ (.int .i64 0)).setCell ⟨xb, 1, none⟩ (.slice A6 M.length c6)).setCell ⟨xb, 2, none⟩ (.int .i64 G)).setCell ⟨xb, 3, none⟩ (.int .i64 30)) xr xb A6 M.length c6 lo hi (pcs d M)) := hid_of (Q8.out.elim fun lo h => h.elim fun hi h => ⟨lo, hi, h.store4 _ _ _ _⟩)
            generalize hW : World.setCell (World.setCell (World.setCell (World.setCell z8 _ _) _ _) _ _) _ _ = z9 at *
            clear hW v0 v1 v2 v3 vf S8 V8 Q8
            refine hZ (fun y => y = z9) (fun y => y = z9) _ _ rfl (fun _ hx => hx) (fun y e => by rw [e]; exact S9.out.x) ?_
            clear hZ Z
            have inst : Nonempty (In (fun y => y = z9)) := ⟨⟨z9, rfl⟩⟩
            repeat (quiet_step (fail))
            refine wpQuiet_nil ?_
            clear inst
            refine seq_last (C := fun y => y = z9) fun zz ez => ?_
            subst ez
            obtain ⟨⟨x0, x1, x2, x3⟩, xf⟩ := S9.out.x
            obtain ⟨⟨v0, v1, v2, v3⟩, vf⟩ := V9.out
            go_upto_region 12 with (fail)
            have S10 := hid_of (S9.out.last4 A6 M.length c6 G)
            have Q10 : Hid (PcIn ((((zz.setCell ⟨xr, 0, none⟩ (.int .i64 0)).setCell ⟨xr, 1, none⟩ (.slice A6 M.length c6)).setCell ⟨xr, 2, none⟩ (.int .i64 G)).setCell ⟨xr, 3, none⟩ (.int .i64 30)) (xr + 1) ((((zz.setCell ⟨xr, 0, none⟩ (.int .i64 0)).setCell ⟨xr, 1, none⟩ (.slice A6 M.length c6)).setCell ⟨xr, 2, none⟩ (.int .i64 G)).setCell ⟨xr, 3, none⟩ (.int .i64 30)).heap.size A6 M.length c6 (pcs d M)) := hid_of (Q9.out.elim fun lo h => h.elim fun hi h => h.last4 _ _ _ _)
            generalize hW : World.setCell (World.setCell (World.setCell (World.setCell zz _ _) _ _) _ _) _ _ = z10 at *
            clear hW x0 x1 x2 x3 xf v0 v1 v2 v3 vf S9 V9 Q9
            go_wp2_with fail
            go_roundw
            case rel => exact ⟨k + 1, M, G, A6, c6, by go_num, by omega, HST, Q10, hid_of S10.out.x, S10.out.b, S10.out.s⟩
            case measure => simp [intOf]; omega

        · rcases (show P % 3 = 0 ∨ P % 3 = 1 ∨ P % 3 = 2 from by omega) with e3 | e3 | e3
          · skip
            have q2 : ((P : Nat) : Int).tmod 2 = 1 := by rw [Int.tmod_eq_emod_of_nonneg (by omega)]; omega
            have q3 : ((P : Nat) : Int).tmod 3 = 0 := by rw [Int.tmod_eq_emod_of_nonneg (by omega)]; omega

            have hk0 : kf P m len k = kr := by unfold kf; rw [if_pos (by omega)]; exact HKR.out
            have hkk : kr < P := by rw [← hk0]; exact kf_lt (by omega)
            have HK := hid_of hk0
            clear hk0
            obtain ⟨kk1, hkk1⟩ : ∃ x : Nat, kr + 1 = x := ⟨_, rfl⟩
            have w82 : IntKind.i64.wrap ((kr : Int) + 1) = (kk1 : Int) := by rw [show (kr : Int) + 1 = (kk1 : Int) from by omega]; exact IntWalk.i64_in _ (by omega)
            obtain ⟨e0, he0⟩ : ∃ x : Nat, kk1 * S = x := ⟨_, rfl⟩
            have he0b : e0 ≤ 37 * 7 := by rw [← he0]; exact Nat.mul_le_mul (by omega) hS7
            have w84 : IntKind.i64.wrap ((kk1 : Int) * (S : Int)) = (e0 : Int) := by rw [show (kk1 : Int) * (S : Int) = (e0 : Int) from by rw [← he0]; exact (Int.natCast_mul kk1 S).symm]; exact IntWalk.i64_in _ (by omega)
            obtain ⟨ee, hee⟩ : ∃ x : Int, (if (d.size : Int) < (e0 : Int) then (d.size : Int) else (e0 : Int)) = x := ⟨_, rfl⟩
            have hee2 : (if d.size < e0 then (d.size : Int) else (e0 : Int)) = ee := by rw [← hee]; split <;> split <;> omega
            obtain ⟨l0, hl0⟩ : ∃ x : Nat, kr * S = x := ⟨_, rfl⟩
            have hat := HFI.out.at_ hkk
            rw [hl0, hkk1, he0] at hat
            have hl0e : e0 = l0 + S := by rw [← he0, ← hkk1, ← hl0]; exact Nat.succ_mul kr S
            have w92 : IntKind.i64.wrap ((kr : Int) * (S : Int)) = (l0 : Int) := by rw [show (kr : Int) * (S : Int) = (l0 : Int) from by rw [← hl0]; exact (Int.natCast_mul kr S).symm]; exact IntWalk.i64_in _ (by omega)
            have s0 : (0 : Int) ≤ (l0 : Int) := by omega
            have s1 : (l0 : Int) ≤ ee := by rw [← hee]; split <;> omega
            have s2 : ee ≤ (d.size : Int) := by rw [← hee]; split <;> omega
            have s3 : ee ≤ (l0 : Int) + 12 := by rw [← hee]; split <;> omega
            have hPM := HPM.out
            obtain ⟨fin, hfin⟩ : ∃ b, ((kr : Int) == (Pm : Int)) = b := ⟨_, rfl⟩
            have hfin2 : (kr == Pm) = fin := by rw [← hfin, Bool.eq_iff_iff, beq_iff_eq, beq_iff_eq]; omega
            have hfin3 : decide (kr = Pm) = fin := by rw [← hfin, Bool.eq_iff_iff, decide_eq_true_iff, beq_iff_eq]; omega
            have hdat : Hid (d.extract l0 ee.toNat = d.extract ((l0 : Int)).toNat ee.toNat) := hid_of (by rw [Int.toNat_natCast])
            have hend : fin = true → ee = d.size := fun e => by
              rw [← hfin, beq_iff_eq] at e
              have := hat.2 (by omega)
              rw [← hee]
              split <;> omega
            have hmin : min (e0 : Int) (d.size : Int) = ee := by rw [← hee]; split <;> omega
            have hstep := HCV.out.step HFI.out HK.out (lo := (l0 : Int)) (e := ee) (fin := fin) (by rw [hl0]) (by rw [hkk1, he0]; exact hmin) (by rw [← hfin, show (P : Int) - 1 = (Pm : Int) from by omega])
            have hF := HCV.out.f
            obtain ⟨M, hM⟩ : ∃ M, (if (l0 : Int) < ee then add L (l0 : Int) (ee - 1) else L) = M := ⟨_, rfl⟩
            obtain ⟨G, hG⟩ : ∃ G, (if fin = true then (d.size : Int) else F) = G := ⟨_, rfl⟩
            rw [hM, hG] at hstep
            have HST := hid_of hstep
            have HM := hid_of hM
            have HG := hid_of hG
            have HF := hid_of hF
            have HEND := hid_of hend
            have HKP := hid_of hkk
            have HX := hid_of HCV.out.x
            clear hstep hM hG hF hend hat hl0e hmin hkk1 he0 hl0 hPM hkk
            obtain ⟨⟨x0, x1, x2, x3⟩, xf⟩ := X.out
            go_wp2_with fail
            have inst : Nonempty (In (fun y => Own4 y xr 0 A L.length c F 30)) := ⟨⟨wq, X.out⟩⟩
            have u0 := fun z : In (fun y => Own4 y xr 0 A L.length c F 30) => z.h.1.1
            have u1 := fun z : In (fun y => Own4 y xr 0 A L.length c F 30) => z.h.1.2.1
            have u2 := fun z : In (fun y => Own4 y xr 0 A L.length c F 30) => z.h.1.2.2.1
            have u3 := fun z : In (fun y => Own4 y xr 0 A L.length c F 30) => z.h.1.2.2.2
            refine wp_region_tree (fun y => Own4 y xr 0 A L.length c F 30) (fun y => ∃ j, y = { wq with drawn := j }) (.two [0, 1, 2, 3, 4, 5, 6, 7, 8, 9, 10, 11, 12, 13] 14 (.one [15, 16, 17] 18 (.one [] 19 (.last [20]))) 18 (.one [] 14 (.one [15, 16, 17] 19 (.last [20])))) (by kernel_rfl) (by kernel_rfl) (fun y hy => by obtain ⟨j, rfl⟩ := hy; exact X.out) (fun j => ⟨j, rfl⟩) ?_
            simp only [TreeW, TurnsAt, opsAt, List.filterMap_cons, List.filterMap_nil, List.getElem?_cons_zero, List.getElem?_cons_succ]
            repeat (quiet_step (fail))
            refine wpQuiet_nil ?_
            clear inst u0 u1 u2 u3 x0 x1 x2 x3 xf
            refine ⟨?call, ?room⟩
            case call =>
              refine ⟨_, rfl, rfl, turns_step2 fun Z hZ y5 h5 => ?_⟩
              obtain ⟨j5, rfl⟩ := h5
              have S5 := hid_of (S0.out.drawnN j5)
              have P5 : PcAt { wq with drawn := j5 } A L.length (pcs d L) := HPC.out.reads
              clear S0
              go_simp
              with_reducible refine (put_v HX.out HF.out s0 s1 s2 s3 HEND.out hdat.out HM.out HG.out _ P5 (fun e => HPC.out.none_cap e)).mono ?_
              rintro e y6 ⟨A6, c6, rfl, hI, hb⟩
              have S6 := hid_of (S5.out.grow hb)
              have hs5 := S5.out.s
              have hs6 := hb.size
              have hI := hid_of hI
              clear P5 S5 hb
              refine hZ (fun y => Own4 y xr 0 A L.length c F 30) (fun y => y = y6) _ _ rfl (fun y e => by rw [e]; exact S6.out.x) (fun _ hx => hx) ?_
              clear hZ Z
              have inst : Nonempty (In (fun y => Own4 y xr 0 A L.length c F 30)) := ⟨⟨y6, S6.out.x⟩⟩
              repeat (quiet_step (fail))
              refine wpQuiet_nil ?_
              clear inst
              refine ⟨_, rfl, rfl, turns_step2 fun Z hZ y7 h7 => ?_⟩
              subst h7
              go_simp
              have hb : Below y7.heap.size y7 (y7.alloc (.cells #[.int .i64 0, .slice none 0 0, .int .i64 0, .int .i64 0] 58)) := (Below.refl _ _).alloc (Nat.le_refl _) _
              have S8 := hid_of (S6.out.grow hb)
              have Q8 : Hid (∃ lo hi, QS (y7.alloc (.cells #[.int .i64 0, .slice none 0 0, .int .i64 0, .int .i64 0] 58)) xr y7.heap.size A6 M.length c6 lo hi (pcs d M)) := hid_of ⟨_, _, hI.out.below hb, hs5, hb.size, .inl (Nat.le_refl _)⟩
              have V8 : Hid (Own4 (y7.alloc (.cells #[.int .i64 0, .slice none 0 0, .int .i64 0, .int .i64 0] 58)) y7.heap.size 0 none 0 0 0 0) := hid_of (Own4.newT _ _)
              obtain ⟨xb, hxb⟩ : ∃ x, y7.heap.size = x := ⟨_, rfl⟩
              have hxx : xr < xb := by rw [← hxb]; exact Nat.lt_of_succ_le S6.out.s
              generalize hW : World.alloc y7 _ = y8 at *
              rw [hxb] at Q8 V8 ⊢
              clear hW hxb S6 hI hb hs5 hs6
              refine hZ (fun y => Own4 y xr 0 A L.length c F 30) (fun y => y = y8) _ _ rfl (fun y e => by rw [e]; exact S8.out.x) (fun _ hx => hx) ?_
              clear hZ Z
              refine wpQuiet_nil ?_
              refine ⟨_, rfl, rfl, turns_step2 fun Z hZ z8 h8 => ?_⟩
              subst h8
              obtain ⟨⟨v0, v1, v2, v3⟩, vf⟩ := V8.out
              go_simp
              have S9 := hid_of (S8.out.store4 hxx (.int .i64 0) (.slice A6 M.length c6) (.int .i64 G) (.int .i64 30))
              have V9 := hid_of (V8.out.setAll 0 A6 M.length c6 G 30)
              have Q9 : Hid (∃ lo hi, QS ((((z8.setCell ⟨xb, 0, none⟩ (.int .i64 0)).setCell ⟨xb, 1, none⟩ (.slice A6 M.length c6)).setCell ⟨xb, 2, none⟩ (.int .i64 G)).setCell ⟨xb, 3, none⟩ (.int .i64 30)) xr xb A6 M.length c6 lo hi (pcs d M)) := hid_of (Q8.out.elim fun lo h => h.elim fun hi h => ⟨lo, hi, h.store4 _ _ _ _⟩)
              generalize hW : World.setCell (World.setCell (World.setCell (World.setCell z8 _ _) _ _) _ _) _ _ = z9 at *
              clear hW v0 v1 v2 v3 vf S8 V8 Q8
              refine hZ (fun y => y = z9) (fun y => y = z9) _ _ rfl (fun _ hx => hx) (fun y e => by rw [e]; exact S9.out.x) ?_
              clear hZ Z
              have inst : Nonempty (In (fun y => y = z9)) := ⟨⟨z9, rfl⟩⟩
              repeat (quiet_step (fail))
              refine wpQuiet_nil ?_
              clear inst
              refine seq_last (C := fun y => y = z9) fun zz ez => ?_
              subst ez
              obtain ⟨⟨x0, x1, x2, x3⟩, xf⟩ := S9.out.x
              obtain ⟨⟨v0, v1, v2, v3⟩, vf⟩ := V9.out
              go_upto_region 12 with (fail)
              have S10 := hid_of (S9.out.last4 A6 M.length c6 G)
              have Q10 : Hid (PcIn ((((zz.setCell ⟨xr, 0, none⟩ (.int .i64 0)).setCell ⟨xr, 1, none⟩ (.slice A6 M.length c6)).setCell ⟨xr, 2, none⟩ (.int .i64 G)).setCell ⟨xr, 3, none⟩ (.int .i64 30)) (xr + 1) ((((zz.setCell ⟨xr, 0, none⟩ (.int .i64 0)).setCell ⟨xr, 1, none⟩ (.slice A6 M.length c6)).setCell ⟨xr, 2, none⟩ (.int .i64 G)).setCell ⟨xr, 3, none⟩ (.int .i64 30)).heap.size A6 M.length c6 (pcs d M)) := hid_of (Q9.out.elim fun lo h => h.elim fun hi h => h.last4 _ _ _ _)
              generalize hW : World.setCell (World.setCell (World.setCell (World.setCell zz _ _) _ _) _ _) _ _ = z10 at *
              clear hW x0 x1 x2 x3 xf v0 v1 v2 v3 vf S9 V9 Q9
              go_wp2_with fail
              go_roundw
              case rel => exact ⟨k + 1, M, G, A6, c6, by go_num, by omega, HST, Q10, hid_of S10.out.x, S10.out.b, S10.out.s⟩
              case measure => simp [intOf]; omega
            case room =>
              refine ⟨_, rfl, rfl, turns_step2 fun Z hZ y5 h5 => ?_⟩
              obtain ⟨j5, rfl⟩ := h5
              have S5 := hid_of (S0.out.drawnN j5)
              have P5 : PcAt { wq with drawn := j5 } A L.length (pcs d L) := HPC.out.reads
              clear S0
              generalize hy : World.mk _ _ _ _ _ = y7 at *
              go_simp
              have hb : Below y7.heap.size y7 (y7.alloc (.cells #[.int .i64 0, .slice none 0 0, .int .i64 0, .int .i64 0] 58)) := (Below.refl _ _).alloc (Nat.le_refl _) _
              have S6 := hid_of (S5.out.grow hb)
              have P6 := P5.below hb
              have V6 : Hid (Own4 (y7.alloc (.cells #[.int .i64 0, .slice none 0 0, .int .i64 0, .int .i64 0] 58)) y7.heap.size 0 none 0 0 0 0) := hid_of (Own4.newT _ _)
              obtain ⟨xb, hxb⟩ : ∃ x, y7.heap.size = x := ⟨_, rfl⟩
              have hxx : xr < xb := by rw [← hxb]; exact Nat.lt_of_succ_le S5.out.s
              have hsz : xb + 1 ≤ (y7.alloc (.cells #[.int .i64 0, .slice none 0 0, .int .i64 0, .int .i64 0] 58)).heap.size := by rw [← hxb]; simp
              generalize hW : World.alloc y7 _ = y6 at *
              rw [hxb] at V6 ⊢
              clear hW hxb hb P5 S5
              refine hZ (fun y => Own4 y xr 0 A L.length c F 30) (fun y => y = y6) _ _ rfl (fun y e => by rw [e]; exact S6.out.x) (fun _ hx => hx) ?_
              clear hZ Z
              refine wpQuiet_nil ?_
              refine ⟨_, rfl, rfl, turns_step2 fun Z hZ y8 h8 => ?_⟩
              subst h8
              go_simp
              with_reducible refine (put_v HX.out HF.out s0 s1 s2 s3 HEND.out hdat.out HM.out HG.out _ P6 (fun e => HPC.out.none_cap e)).mono ?_
              rintro e y9 ⟨A6, c6, rfl, hI, hb⟩
              have S8 := hid_of (S6.out.grow hb)
              have V8 := hid_of (V6.out.grow hb)
              have Q8 : Hid (∃ lo hi, QS y9 xr xb A6 M.length c6 lo hi (pcs d M)) := hid_of ⟨_, _, hI, by omega, Nat.le_refl _, .inr hsz⟩
              clear hI hb S6 V6 P6 hsz
              refine hZ (fun y => Own4 y xr 0 A L.length c F 30) (fun y => y = y9) _ _ rfl (fun y e => by rw [e]; exact S8.out.x) (fun _ hx => hx) ?_
              clear hZ Z
              have inst : Nonempty (In (fun y => Own4 y xr 0 A L.length c F 30)) := ⟨⟨y9, S8.out.x⟩⟩
              repeat (quiet_step (fail))
              refine wpQuiet_nil ?_
              clear inst
              refine ⟨_, rfl, rfl, turns_step2 fun Z hZ z8 h8 => ?_⟩
              subst h8
              obtain ⟨⟨v0, v1, v2, v3⟩, vf⟩ := V8.out
              go_simp
              have S9 := hid_of (S8.out.store4 hxx (.int .i64 0) (.slice A6 M.length c6) (.int .i64 G) (.int .i64 30))
              have V9 := hid_of (V8.out.setAll 0 A6 M.length c6 G 30)
              have Q9 : Hid (∃ lo hi, QS ((((z8.setCell ⟨xb, 0, none⟩ (.int .i64 0)).setCell ⟨xb, 1, none⟩ (.slice A6 M.length c6)).setCell ⟨xb, 2, none⟩ (.int .i64 G)).setCell ⟨xb, 3, none⟩ (.int .i64 30)) xr xb A6 M.length c6 lo hi (pcs d M)) := hid_of (Q8.out.elim fun lo h => h.elim fun hi h => ⟨lo, hi, h.store4 _ _ _ _⟩)
              generalize hW : World.setCell (World.setCell (World.setCell (World.setCell z8 _ _) _ _) _ _) _ _ = z9 at *
              clear hW v0 v1 v2 v3 vf S8 V8 Q8
              refine hZ (fun y => y = z9) (fun y => y = z9) _ _ rfl (fun _ hx => hx) (fun y e => by rw [e]; exact S9.out.x) ?_
              clear hZ Z
              have inst : Nonempty (In (fun y => y = z9)) := ⟨⟨z9, rfl⟩⟩
              repeat (quiet_step (fail))
              refine wpQuiet_nil ?_
              clear inst
              refine seq_last (C := fun y => y = z9) fun zz ez => ?_
              subst ez
              obtain ⟨⟨x0, x1, x2, x3⟩, xf⟩ := S9.out.x
              obtain ⟨⟨v0, v1, v2, v3⟩, vf⟩ := V9.out
              go_upto_region 12 with (fail)
              have S10 := hid_of (S9.out.last4 A6 M.length c6 G)
              have Q10 : Hid (PcIn ((((zz.setCell ⟨xr, 0, none⟩ (.int .i64 0)).setCell ⟨xr, 1, none⟩ (.slice A6 M.length c6)).setCell ⟨xr, 2, none⟩ (.int .i64 G)).setCell ⟨xr, 3, none⟩ (.int .i64 30)) (xr + 1) ((((zz.setCell ⟨xr, 0, none⟩ (.int .i64 0)).setCell ⟨xr, 1, none⟩ (.slice A6 M.length c6)).setCell ⟨xr, 2, none⟩ (.int .i64 G)).setCell ⟨xr, 3, none⟩ (.int .i64 30)).heap.size A6 M.length c6 (pcs d M)) := hid_of (Q9.out.elim fun lo h => h.elim fun hi h => h.last4 _ _ _ _)
              generalize hW : World.setCell (World.setCell (World.setCell (World.setCell zz _ _) _ _) _ _) _ _ = z10 at *
              clear hW x0 x1 x2 x3 xf v0 v1 v2 v3 vf S9 V9 Q9
              go_wp2_with fail
              go_roundw
              case rel => exact ⟨k + 1, M, G, A6, c6, by go_num, by omega, HST, Q10, hid_of S10.out.x, S10.out.b, S10.out.s⟩
              case measure => simp [intOf]; omega

          · skip
            have q2 : ((P : Nat) : Int).tmod 2 = 1 := by rw [Int.tmod_eq_emod_of_nonneg (by omega)]; omega
            have q3 : ((P : Nat) : Int).tmod 3 = 1 := by rw [Int.tmod_eq_emod_of_nonneg (by omega)]; omega

            have hk0 : kf P m len k = k0 := by unfold kf; rw [if_neg (by omega)]; exact HK0.out
            have hkk : k0 < P := by rw [← hk0]; exact kf_lt (by omega)
            have HK := hid_of hk0
            clear hk0
            obtain ⟨kk1, hkk1⟩ : ∃ x : Nat, k0 + 1 = x := ⟨_, rfl⟩
            have w82 : IntKind.i64.wrap ((k0 : Int) + 1) = (kk1 : Int) := by rw [show (k0 : Int) + 1 = (kk1 : Int) from by omega]; exact IntWalk.i64_in _ (by omega)
            obtain ⟨e0, he0⟩ : ∃ x : Nat, kk1 * S = x := ⟨_, rfl⟩
            have he0b : e0 ≤ 37 * 7 := by rw [← he0]; exact Nat.mul_le_mul (by omega) hS7
            have w84 : IntKind.i64.wrap ((kk1 : Int) * (S : Int)) = (e0 : Int) := by rw [show (kk1 : Int) * (S : Int) = (e0 : Int) from by rw [← he0]; exact (Int.natCast_mul kk1 S).symm]; exact IntWalk.i64_in _ (by omega)
            obtain ⟨ee, hee⟩ : ∃ x : Int, (if (d.size : Int) < (e0 : Int) then (d.size : Int) else (e0 : Int)) = x := ⟨_, rfl⟩
            have hee2 : (if d.size < e0 then (d.size : Int) else (e0 : Int)) = ee := by rw [← hee]; split <;> split <;> omega
            obtain ⟨l0, hl0⟩ : ∃ x : Nat, k0 * S = x := ⟨_, rfl⟩
            have hat := HFI.out.at_ hkk
            rw [hl0, hkk1, he0] at hat
            have hl0e : e0 = l0 + S := by rw [← he0, ← hkk1, ← hl0]; exact Nat.succ_mul k0 S
            have w92 : IntKind.i64.wrap ((k0 : Int) * (S : Int)) = (l0 : Int) := by rw [show (k0 : Int) * (S : Int) = (l0 : Int) from by rw [← hl0]; exact (Int.natCast_mul k0 S).symm]; exact IntWalk.i64_in _ (by omega)
            have s0 : (0 : Int) ≤ (l0 : Int) := by omega
            have s1 : (l0 : Int) ≤ ee := by rw [← hee]; split <;> omega
            have s2 : ee ≤ (d.size : Int) := by rw [← hee]; split <;> omega
            have s3 : ee ≤ (l0 : Int) + 12 := by rw [← hee]; split <;> omega
            have hPM := HPM.out
            obtain ⟨fin, hfin⟩ : ∃ b, ((k0 : Int) == (Pm : Int)) = b := ⟨_, rfl⟩
            have hfin2 : (k0 == Pm) = fin := by rw [← hfin, Bool.eq_iff_iff, beq_iff_eq, beq_iff_eq]; omega
            have hfin3 : decide (k0 = Pm) = fin := by rw [← hfin, Bool.eq_iff_iff, decide_eq_true_iff, beq_iff_eq]; omega
            have hdat : Hid (d.extract l0 ee.toNat = d.extract ((l0 : Int)).toNat ee.toNat) := hid_of (by rw [Int.toNat_natCast])
            have hend : fin = true → ee = d.size := fun e => by
              rw [← hfin, beq_iff_eq] at e
              have := hat.2 (by omega)
              rw [← hee]
              split <;> omega
            have hmin : min (e0 : Int) (d.size : Int) = ee := by rw [← hee]; split <;> omega
            have hstep := HCV.out.step HFI.out HK.out (lo := (l0 : Int)) (e := ee) (fin := fin) (by rw [hl0]) (by rw [hkk1, he0]; exact hmin) (by rw [← hfin, show (P : Int) - 1 = (Pm : Int) from by omega])
            have hF := HCV.out.f
            obtain ⟨M, hM⟩ : ∃ M, (if (l0 : Int) < ee then add L (l0 : Int) (ee - 1) else L) = M := ⟨_, rfl⟩
            obtain ⟨G, hG⟩ : ∃ G, (if fin = true then (d.size : Int) else F) = G := ⟨_, rfl⟩
            rw [hM, hG] at hstep
            have HST := hid_of hstep
            have HM := hid_of hM
            have HG := hid_of hG
            have HF := hid_of hF
            have HEND := hid_of hend
            have HKP := hid_of hkk
            have HX := hid_of HCV.out.x
            clear hstep hM hG hF hend hat hl0e hmin hkk1 he0 hl0 hPM hkk
            obtain ⟨⟨x0, x1, x2, x3⟩, xf⟩ := X.out
            go_wp2_with fail
            have inst : Nonempty (In (fun y => Own4 y xr 0 A L.length c F 30)) := ⟨⟨wq, X.out⟩⟩
            have u0 := fun z : In (fun y => Own4 y xr 0 A L.length c F 30) => z.h.1.1
            have u1 := fun z : In (fun y => Own4 y xr 0 A L.length c F 30) => z.h.1.2.1
            have u2 := fun z : In (fun y => Own4 y xr 0 A L.length c F 30) => z.h.1.2.2.1
            have u3 := fun z : In (fun y => Own4 y xr 0 A L.length c F 30) => z.h.1.2.2.2
            refine wp_region_tree (fun y => Own4 y xr 0 A L.length c F 30) (fun y => ∃ j, y = { wq with drawn := j }) (.two [0, 1, 2, 3, 4, 5, 6, 7, 8, 9, 10, 11, 12, 13] 14 (.one [15, 16, 17] 18 (.one [] 19 (.last [20]))) 18 (.one [] 14 (.one [15, 16, 17] 19 (.last [20])))) (by kernel_rfl) (by kernel_rfl) (fun y hy => by obtain ⟨j, rfl⟩ := hy; exact X.out) (fun j => ⟨j, rfl⟩) ?_
            simp only [TreeW, TurnsAt, opsAt, List.filterMap_cons, List.filterMap_nil, List.getElem?_cons_zero, List.getElem?_cons_succ]
            repeat (quiet_step (fail))
            refine wpQuiet_nil ?_
            clear inst u0 u1 u2 u3 x0 x1 x2 x3 xf
            refine ⟨?call, ?room⟩
            case call =>
              refine ⟨_, rfl, rfl, turns_step2 fun Z hZ y5 h5 => ?_⟩
              obtain ⟨j5, rfl⟩ := h5
              have S5 := hid_of (S0.out.drawnN j5)
              have P5 : PcAt { wq with drawn := j5 } A L.length (pcs d L) := HPC.out.reads
              clear S0
              go_simp
              with_reducible refine (put_v HX.out HF.out s0 s1 s2 s3 HEND.out hdat.out HM.out HG.out _ P5 (fun e => HPC.out.none_cap e)).mono ?_
              rintro e y6 ⟨A6, c6, rfl, hI, hb⟩
              have S6 := hid_of (S5.out.grow hb)
              have hs5 := S5.out.s
              have hs6 := hb.size
              have hI := hid_of hI
              clear P5 S5 hb
              refine hZ (fun y => Own4 y xr 0 A L.length c F 30) (fun y => y = y6) _ _ rfl (fun y e => by rw [e]; exact S6.out.x) (fun _ hx => hx) ?_
              clear hZ Z
              have inst : Nonempty (In (fun y => Own4 y xr 0 A L.length c F 30)) := ⟨⟨y6, S6.out.x⟩⟩
              repeat (quiet_step (fail))
              refine wpQuiet_nil ?_
              clear inst
              refine ⟨_, rfl, rfl, turns_step2 fun Z hZ y7 h7 => ?_⟩
              subst h7
              go_simp
              have hb : Below y7.heap.size y7 (y7.alloc (.cells #[.int .i64 0, .slice none 0 0, .int .i64 0, .int .i64 0] 58)) := (Below.refl _ _).alloc (Nat.le_refl _) _
              have S8 := hid_of (S6.out.grow hb)
              have Q8 : Hid (∃ lo hi, QS (y7.alloc (.cells #[.int .i64 0, .slice none 0 0, .int .i64 0, .int .i64 0] 58)) xr y7.heap.size A6 M.length c6 lo hi (pcs d M)) := hid_of ⟨_, _, hI.out.below hb, hs5, hb.size, .inl (Nat.le_refl _)⟩
              have V8 : Hid (Own4 (y7.alloc (.cells #[.int .i64 0, .slice none 0 0, .int .i64 0, .int .i64 0] 58)) y7.heap.size 0 none 0 0 0 0) := hid_of (Own4.newT _ _)
              obtain ⟨xb, hxb⟩ : ∃ x, y7.heap.size = x := ⟨_, rfl⟩
              have hxx : xr < xb := by rw [← hxb]; exact Nat.lt_of_succ_le S6.out.s
              generalize hW : World.alloc y7 _ = y8 at *
              rw [hxb] at Q8 V8 ⊢
              clear hW hxb S6 hI hb hs5 hs6
              refine hZ (fun y => Own4 y xr 0 A L.length c F 30) (fun y => y = y8) _ _ rfl (fun y e => by rw [e]; exact S8.out.x) (fun _ hx => hx) ?_
              clear hZ Z
              refine wpQuiet_nil ?_
              refine ⟨_, rfl, rfl, turns_step2 fun Z hZ z8 h8 => ?_⟩
              subst h8
              obtain ⟨⟨v0, v1, v2, v3⟩, vf⟩ := V8.out
              go_simp
              have S9 := hid_of (S8.out.store4 hxx (.int .i64 0) (.slice A6 M.length c6) (.int .i64 G) (.int .i64 30))
              have V9 := hid_of (V8.out.setAll 0 A6 M.length c6 G 30)
              have Q9 : Hid (∃ lo hi, QS ((((z8.setCell ⟨xb, 0, none⟩ (.int .i64 0)).setCell ⟨xb, 1, none⟩ (.slice A6 M.length c6)).setCell ⟨xb, 2, none⟩ (.int .i64 G)).setCell ⟨xb, 3, none⟩ (.int .i64 30)) xr xb A6 M.length c6 lo hi (pcs d M)) := hid_of (Q8.out.elim fun lo h => h.elim fun hi h => ⟨lo, hi, h.store4 _ _ _ _⟩)
              generalize hW : World.setCell (World.setCell (World.setCell (World.setCell z8 _ _) _ _) _ _) _ _ = z9 at *
              clear hW v0 v1 v2 v3 vf S8 V8 Q8
              refine hZ (fun y => y = z9) (fun y => y = z9) _ _ rfl (fun _ hx => hx) (fun y e => by rw [e]; exact S9.out.x) ?_
              clear hZ Z
              have inst : Nonempty (In (fun y => y = z9)) := ⟨⟨z9, rfl⟩⟩
              repeat (quiet_step (fail))
              refine wpQuiet_nil ?_
              clear inst
              refine seq_last (C := fun y => y = z9) fun zz ez => ?_
              subst ez
              obtain ⟨⟨x0, x1, x2, x3⟩, xf⟩ := S9.out.x
              obtain ⟨⟨v0, v1, v2, v3⟩, vf⟩ := V9.out
              go_upto_region 12 with (fail)
              have S10 := hid_of (S9.out.last4 A6 M.length c6 G)
              have Q10 : Hid (PcIn ((((zz.setCell ⟨xr, 0, none⟩ (.int .i64 0)).setCell ⟨xr, 1, none⟩ (.slice A6 M.length c6)).setCell ⟨xr, 2, none⟩ (.int .i64 G)).setCell ⟨xr, 3, none⟩ (.int .i64 30)) (xr + 1) ((((zz.setCell ⟨xr, 0, none⟩ (.int .i64 0)).setCell ⟨xr, 1, none⟩ (.slice A6 M.length c6)).setCell ⟨xr, 2, none⟩ (.int .i64 G)).setCell ⟨xr, 3, none⟩ (.int .i64 30)).heap.size A6 M.length c6 (pcs d M)) := hid_of (Q9.out.elim fun lo h => h.elim fun hi h => h.last4 _ _ _ _)
              generalize hW : World.setCell (World.setCell (World.setCell (World.setCell zz _ _) _ _) _ _) _ _ = z10 at *
              clear hW x0 x1 x2 x3 xf v0 v1 v2 v3 vf S9 V9 Q9
              go_wp2_with fail
              go_roundw
              case rel => exact ⟨k + 1, M, G, A6, c6, by go_num, by omega, HST, Q10, hid_of S10.out.x, S10.out.b, S10.out.s⟩
              case measure => simp [intOf]; omega
            case room =>
              refine ⟨_, rfl, rfl, turns_step2 fun Z hZ y5 h5 => ?_⟩
              obtain ⟨j5, rfl⟩ := h5
              have S5 := hid_of (S0.out.drawnN j5)
              have P5 : PcAt { wq with drawn := j5 } A L.length (pcs d L) := HPC.out.reads
              clear S0
              generalize hy : World.mk _ _ _ _ _ = y7 at *
              go_simp
              have hb : Below y7.heap.size y7 (y7.alloc (.cells #[.int .i64 0, .slice none 0 0, .int .i64 0, .int .i64 0] 58)) := (Below.refl _ _).alloc (Nat.le_refl _) _
              have S6 := hid_of (S5.out.grow hb)
              have P6 := P5.below hb
              have V6 : Hid (Own4 (y7.alloc (.cells #[.int .i64 0, .slice none 0 0, .int .i64 0, .int .i64 0] 58)) y7.heap.size 0 none 0 0 0 0) := hid_of (Own4.newT _ _)
              obtain ⟨xb, hxb⟩ : ∃ x, y7.heap.size = x := ⟨_, rfl⟩
              have hxx : xr < xb := by rw [← hxb]; exact Nat.lt_of_succ_le S5.out.s
              have hsz : xb + 1 ≤ (y7.alloc (.cells #[.int .i64 0, .slice none 0 0, .int .i64 0, .int .i64 0] 58)).heap.size := by rw [← hxb]; simp
              generalize hW : World.alloc y7 _ = y6 at *
              rw [hxb] at V6 ⊢
              clear hW hxb hb P5 S5
              refine hZ (fun y => Own4 y xr 0 A L.length c F 30) (fun y => y = y6) _ _ rfl (fun y e => by rw [e]; exact S6.out.x) (fun _ hx => hx) ?_
              clear hZ Z
              refine wpQuiet_nil ?_
              refine ⟨_, rfl, rfl, turns_step2 fun Z hZ y8 h8 => ?_⟩
              subst h8
              go_simp
              with_reducible refine (put_v HX.out HF.out s0 s1 s2 s3 HEND.out hdat.out HM.out HG.out _ P6 (fun e => HPC.out.none_cap e)).mono ?_
              rintro e y9 ⟨A6, c6, rfl, hI, hb⟩
              have S8 := hid_of (S6.out.grow hb)
              have V8 := hid_of (V6.out.grow hb)
              have Q8 : Hid (∃ lo hi, QS y9 xr xb A6 M.length c6 lo hi (pcs d M)) := hid_of ⟨_, _, hI, by omega, Nat.le_refl _, .inr hsz⟩
              clear hI hb S6 V6 P6 hsz
              refine hZ (fun y => Own4 y xr 0 A L.length c F 30) (fun y => y = y9) _ _ rfl (fun y e => by rw [e]; exact S8.out.x) (fun _ hx => hx) ?_
              clear hZ Z
              have inst : Nonempty (In (fun y => Own4 y xr 0 A L.length c F 30)) := ⟨⟨y9, S8.out.x⟩⟩
              repeat (quiet_step (fail))
              refine wpQuiet_nil ?_
              clear inst
              refine ⟨_, rfl, rfl, turns_step2 fun Z hZ z8 h8 => ?_⟩
              subst h8
              obtain ⟨⟨v0, v1, v2, v3⟩, vf⟩ := V8.out
              go_simp
              have S9 := hid_of (S8.out.store4 hxx (.int .i64 0) (.slice A6 M.length c6) (.int .i64 G) (.int .i64 30))
              have V9 := hid_of (V8.out.setAll 0 A6 M.length c6 G 30)
              have Q9 : Hid (∃ lo hi, QS ((((z8.setCell ⟨xb, 0, none⟩ (.int .i64 0)).setCell ⟨xb, 1, none⟩ (.slice A6 M.length c6)).setCell ⟨xb, 2, none⟩ (.int .i64 G)).setCell ⟨xb, 3, none⟩ (.int .i64 30)) xr xb A6 M.length c6 lo hi (pcs d M)) := hid_of (Q8.out.elim fun lo h => h.elim fun hi h => ⟨lo, hi, h.store4 _ _ _ _⟩)
              generalize hW : World.setCell (World.setCell (World.setCell (World.setCell z8 _ _) _ _) _ _) _ _ = z9 at *
              clear hW v0 v1 v2 v3 vf S8 V8 Q8
              refine hZ (fun y => y = z9) (fun y => y = z9) _ _ rfl (fun _ hx => hx) (fun y e => by rw [e]; exact S9.out.x) ?_
              clear hZ Z
              have inst : Nonempty (In (fun y => y = z9)) := ⟨⟨z9, rfl⟩⟩
              repeat (quiet_step (fail))
              refine wpQuiet_nil ?_
              clear inst
              refine seq_last (C := fun y => y = z9) fun zz ez => ?_
              subst ez
              obtain ⟨⟨x0, x1, x2, x3⟩, xf⟩ := S9.out.x
              obtain ⟨⟨v0, v1, v2, v3⟩, vf⟩ := V9.out
              go_upto_region 12 with (fail)
              have S10 := hid_of (S9.out.last4 A6 M.length c6 G)
              have Q10 : Hid (PcIn ((((zz.setCell ⟨xr, 0, none⟩ (.int .i64 0)).setCell ⟨xr, 1, none⟩ (.slice A6 M.length c6)).setCell ⟨xr, 2, none⟩ (.int .i64 G)).setCell ⟨xr, 3, none⟩ (.int .i64 30)) (xr + 1) ((((zz.setCell ⟨xr, 0, none⟩ (.int .i64 0)).setCell ⟨xr, 1, none⟩ (.slice A6 M.length c6)).setCell ⟨xr, 2, none⟩ (.int .i64 G)).setCell ⟨xr, 3, none⟩ (.int .i64 30)).heap.size A6 M.length c6 (pcs d M)) := hid_of (Q9.out.elim fun lo h => h.elim fun hi h => h.last4 _ _ _ _)
              generalize hW : World.setCell (World.setCell (World.setCell (World.setCell zz _ _) _ _) _ _) _ _ = z10 at *
              clear hW x0 x1 x2 x3 xf v0 v1 v2 v3 vf S9 V9 Q9
              go_wp2_with fail
              go_roundw
              case rel => exact ⟨k + 1, M, G, A6, c6, by go_num, by omega, HST, Q10, hid_of S10.out.x, S10.out.b, S10.out.s⟩
              case measure => simp [intOf]; omega

          · skip
            have q2 : ((P : Nat) : Int).tmod 2 = 1 := by rw [Int.tmod_eq_emod_of_nonneg (by omega)]; omega
            have q3 : ((P : Nat) : Int).tmod 3 = 2 := by rw [Int.tmod_eq_emod_of_nonneg (by omega)]; omega

            have hk0 : kf P m len k = k0 := by unfold kf; rw [if_neg (by omega)]; exact HK0.out
            have hkk : k0 < P := by rw [← hk0]; exact kf_lt (by omega)
            have HK := hid_of hk0
            clear hk0
            obtain ⟨kk1, hkk1⟩ : ∃ x : Nat, k0 + 1 = x := ⟨_, rfl⟩
            have w82 : IntKind.i64.wrap ((k0 : Int) + 1) = (kk1 : Int) := by rw [show (k0 : Int) + 1 = (kk1 : Int) from by omega]; exact IntWalk.i64_in _ (by omega)
            obtain ⟨e0, he0⟩ : ∃ x : Nat, kk1 * S = x := ⟨_, rfl⟩
            have he0b : e0 ≤ 37 * 7 := by rw [← he0]; exact Nat.mul_le_mul (by omega) hS7
            have w84 : IntKind.i64.wrap ((kk1 : Int) * (S : Int)) = (e0 : Int) := by rw [show (kk1 : Int) * (S : Int) = (e0 : Int) from by rw [← he0]; exact (Int.natCast_mul kk1 S).symm]; exact IntWalk.i64_in _ (by omega)
            obtain ⟨ee, hee⟩ : ∃ x : Int, (if (d.size : Int) < (e0 : Int) then (d.size : Int) else (e0 : Int)) = x := ⟨_, rfl⟩
            have hee2 : (if d.size < e0 then (d.size : Int) else (e0 : Int)) = ee := by rw [← hee]; split <;> split <;> omega
            obtain ⟨l0, hl0⟩ : ∃ x : Nat, k0 * S = x := ⟨_, rfl⟩
            have hat := HFI.out.at_ hkk
            rw [hl0, hkk1, he0] at hat
            have hl0e : e0 = l0 + S := by rw [← he0, ← hkk1, ← hl0]; exact Nat.succ_mul k0 S
            have w92 : IntKind.i64.wrap ((k0 : Int) * (S : Int)) = (l0 : Int) := by rw [show (k0 : Int) * (S : Int) = (l0 : Int) from by rw [← hl0]; exact (Int.natCast_mul k0 S).symm]; exact IntWalk.i64_in _ (by omega)
            have s0 : (0 : Int) ≤ (l0 : Int) := by omega
            have s1 : (l0 : Int) ≤ ee := by rw [← hee]; split <;> omega
            have s2 : ee ≤ (d.size : Int) := by rw [← hee]; split <;> omega
            have s3 : ee ≤ (l0 : Int) + 12 := by rw [← hee]; split <;> omega
            have hPM := HPM.out
            obtain ⟨fin, hfin⟩ : ∃ b, ((k0 : Int) == (Pm : Int)) = b := ⟨_, rfl⟩
            have hfin2 : (k0 == Pm) = fin := by rw [← hfin, Bool.eq_iff_iff, beq_iff_eq, beq_iff_eq]; omega
            have hfin3 : decide (k0 = Pm) = fin := by rw [← hfin, Bool.eq_iff_iff, decide_eq_true_iff, beq_iff_eq]; omega
            have hdat : Hid (d.extract l0 ee.toNat = d.extract ((l0 : Int)).toNat ee.toNat) := hid_of (by rw [Int.toNat_natCast])
            have hend : fin = true → ee = d.size := fun e => by
              rw [← hfin, beq_iff_eq] at e
              have := hat.2 (by omega)
              rw [← hee]
              split <;> omega
            have hmin : min (e0 : Int) (d.size : Int) = ee := by rw [← hee]; split <;> omega
            have hstep := HCV.out.step HFI.out HK.out (lo := (l0 : Int)) (e := ee) (fin := fin) (by rw [hl0]) (by rw [hkk1, he0]; exact hmin) (by rw [← hfin, show (P : Int) - 1 = (Pm : Int) from by omega])
            have hF := HCV.out.f
            obtain ⟨M, hM⟩ : ∃ M, (if (l0 : Int) < ee then add L (l0 : Int) (ee - 1) else L) = M := ⟨_, rfl⟩
            obtain ⟨G, hG⟩ : ∃ G, (if fin = true then (d.size : Int) else F) = G := ⟨_, rfl⟩
            rw [hM, hG] at hstep
            have HST := hid_of hstep
            have HM := hid_of hM
            have HG := hid_of hG
            have HF := hid_of hF
            have HEND := hid_of hend
            have HKP := hid_of hkk
            have HX := hid_of HCV.out.x
            clear hstep hM hG hF hend hat hl0e hmin hkk1 he0 hl0 hPM hkk
            obtain ⟨⟨x0, x1, x2, x3⟩, xf⟩ := X.out
            go_wp2_with fail
            have inst : Nonempty (In (fun y => Own4 y xr 0 A L.length c F 30)) := ⟨⟨wq, X.out⟩⟩
            have u0 := fun z : In (fun y => Own4 y xr 0 A L.length c F 30) => z.h.1.1
            have u1 := fun z : In (fun y => Own4 y xr 0 A L.length c F 30) => z.h.1.2.1
            have u2 := fun z : In (fun y => Own4 y xr 0 A L.length c F 30) => z.h.1.2.2.1
            have u3 := fun z : In (fun y => Own4 y xr 0 A L.length c F 30) => z.h.1.2.2.2
            refine wp_region_tree (fun y => Own4 y xr 0 A L.length c F 30) (fun y => ∃ j, y = { wq with drawn := j }) (.two [0, 1, 2, 3, 4, 5, 6, 7, 8, 9, 10, 11, 12, 13] 14 (.one [15, 16, 17] 18 (.one [] 19 (.last [20]))) 18 (.one [] 14 (.one [15, 16, 17] 19 (.last [20])))) (by kernel_rfl) (by kernel_rfl) (fun y hy => by obtain ⟨j, rfl⟩ := hy; exact X.out) (fun j => ⟨j, rfl⟩) ?_
            simp only [TreeW, TurnsAt, opsAt, List.filterMap_cons, List.filterMap_nil, List.getElem?_cons_zero, List.getElem?_cons_succ]
            repeat (quiet_step (fail))
            refine wpQuiet_nil ?_
            clear inst u0 u1 u2 u3 x0 x1 x2 x3 xf
            refine ⟨?call, ?room⟩
            case call =>
              refine ⟨_, rfl, rfl, turns_step2 fun Z hZ y5 h5 => ?_⟩
              obtain ⟨j5, rfl⟩ := h5
              have S5 := hid_of (S0.out.drawnN j5)
              have P5 : PcAt { wq with drawn := j5 } A L.length (pcs d L) := HPC.out.reads
              clear S0
              go_simp
              with_reducible refine (put_v HX.out HF.out s0 s1 s2 s3 HEND.out hdat.out HM.out HG.out _ P5 (fun e => HPC.out.none_cap e)).mono ?_
              rintro e y6 ⟨A6, c6, rfl, hI, hb⟩
              have S6 := hid_of (S5.out.grow hb)
              have hs5 := S5.out.s
              have hs6 := hb.size
              have hI := hid_of hI
              clear P5 S5 hb
              refine hZ (fun y => Own4 y xr 0 A L.length c F 30) (fun y => y = y6) _ _ rfl (fun y e => by rw [e]; exact S6.out.x) (fun _ hx => hx) ?_
              clear hZ Z
              have inst : Nonempty (In (fun y => Own4 y xr 0 A L.length c F 30)) := ⟨⟨y6, S6.out.x⟩⟩
              repeat (quiet_step (fail))
              refine wpQuiet_nil ?_
              clear inst
              refine ⟨_, rfl, rfl, turns_step2 fun Z hZ y7 h7 => ?_⟩
              subst h7
              go_simp
              have hb : Below y7.heap.size y7 (y7.alloc (.cells #[.int .i64 0, .slice none 0 0, .int .i64 0, .int .i64 0] 58)) := (Below.refl _ _).alloc (Nat.le_refl _) _
              have S8 := hid_of (S6.out.grow hb)
              have Q8 : Hid (∃ lo hi, QS (y7.alloc (.cells #[.int .i64 0, .slice none 0 0, .int .i64 0, .int .i64 0] 58)) xr y7.heap.size A6 M.length c6 lo hi (pcs d M)) := hid_of ⟨_, _, hI.out.below hb, hs5, hb.size, .inl (Nat.le_refl _)⟩
              have V8 : Hid (Own4 (y7.alloc (.cells #[.int .i64 0, .slice none 0 0, .int .i64 0, .int .i64 0] 58)) y7.heap.size 0 none 0 0 0 0) := hid_of (Own4.newT _ _)
              obtain ⟨xb, hxb⟩ : ∃ x, y7.heap.size = x := ⟨_, rfl⟩
              have hxx : xr < xb := by rw [← hxb]; exact Nat.lt_of_succ_le S6.out.s
              generalize hW : World.alloc y7 _ = y8 at *
              rw [hxb] at Q8 V8 ⊢
              clear hW hxb S6 hI hb hs5 hs6
              refine hZ (fun y => Own4 y xr 0 A L.length c F 30) (fun y => y = y8) _ _ rfl (fun y e => by rw [e]; exact S8.out.x) (fun _ hx => hx) ?_
              clear hZ Z
              refine wpQuiet_nil ?_
              refine ⟨_, rfl, rfl, turns_step2 fun Z hZ z8 h8 => ?_⟩
              subst h8
              obtain ⟨⟨v0, v1, v2, v3⟩, vf⟩ := V8.out
              go_simp
              have S9 := hid_of (S8.out.store4 hxx (.int .i64 0) (.slice A6 M.length c6) (.int .i64 G) (.int .i64 30))
              have V9 := hid_of (V8.out.setAll 0 A6 M.length c6 G 30)
              have Q9 : Hid (∃ lo hi, QS ((((z8.setCell ⟨xb, 0, none⟩ (.int .i64 0)).setCell ⟨xb, 1, none⟩ (.slice A6 M.length c6)).setCell ⟨xb, 2, none⟩ (.int .i64 G)).setCell ⟨xb, 3, none⟩ (.int .i64 30)) xr xb A6 M.length c6 lo hi (pcs d M)) := hid_of (Q8.out.elim fun lo h => h.elim fun hi h => ⟨lo, hi, h.store4 _ _ _ _⟩)
              generalize hW : World.setCell (World.setCell (World.setCell (World.setCell z8 _ _) _ _) _ _) _ _ = z9 at *
              clear hW v0 v1 v2 v3 vf S8 V8 Q8
              refine hZ (fun y => y = z9) (fun y => y = z9) _ _ rfl (fun _ hx => hx) (fun y e => by rw [e]; exact S9.out.x) ?_
              clear hZ Z
              have inst : Nonempty (In (fun y => y = z9)) := ⟨⟨z9, rfl⟩⟩
              repeat (quiet_step (fail))
              refine wpQuiet_nil ?_
              clear inst
              refine seq_last (C := fun y => y = z9) fun zz ez => ?_
              subst ez
              obtain ⟨⟨x0, x1, x2, x3⟩, xf⟩ := S9.out.x
              obtain ⟨⟨v0, v1, v2, v3⟩, vf⟩ := V9.out
              go_upto_region 12 with (fail)
              have S10 := hid_of (S9.out.last4 A6 M.length c6 G)
              have Q10 : Hid (PcIn ((((zz.setCell ⟨xr, 0, none⟩ (.int .i64 0)).setCell ⟨xr, 1, none⟩ (.slice A6 M.length c6)).setCell ⟨xr, 2, none⟩ (.int .i64 G)).setCell ⟨xr, 3, none⟩ (.int .i64 30)) (xr + 1) ((((zz.setCell ⟨xr, 0, none⟩ (.int .i64 0)).setCell ⟨xr, 1, none⟩ (.slice A6 M.length c6)).setCell ⟨xr, 2, none⟩ (.int .i64 G)).setCell ⟨xr, 3, none⟩ (.int .i64 30)).heap.size A6 M.length c6 (pcs d M)) := hid_of (Q9.out.elim fun lo h => h.elim fun hi h => h.last4 _ _ _ _)
              generalize hW : World.setCell (World.setCell (World.setCell (World.setCell zz _ _) _ _) _ _) _ _ = z10 at *
              clear hW x0 x1 x2 x3 xf v0 v1 v2 v3 vf S9 V9 Q9
              go_wp2_with fail
              go_roundw
              case rel => exact ⟨k + 1, M, G, A6, c6, by go_num, by omega, HST, Q10, hid_of S10.out.x, S10.out.b, S10.out.s⟩
              case measure => simp [intOf]; omega
            case room =>
              refine ⟨_, rfl, rfl, turns_step2 fun Z hZ y5 h5 => ?_⟩
              obtain ⟨j5, rfl⟩ := h5
              have S5 := hid_of (S0.out.drawnN j5)
              have P5 : PcAt { wq with drawn := j5 } A L.length (pcs d L) := HPC.out.reads
              clear S0
              generalize hy : World.mk _ _ _ _ _ = y7 at *
              go_simp
              have hb : Below y7.heap.size y7 (y7.alloc (.cells #[.int .i64 0, .slice none 0 0, .int .i64 0, .int .i64 0] 58)) := (Below.refl _ _).alloc (Nat.le_refl _) _
              have S6 := hid_of (S5.out.grow hb)
              have P6 := P5.below hb
              have V6 : Hid (Own4 (y7.alloc (.cells #[.int .i64 0, .slice none 0 0, .int .i64 0, .int .i64 0] 58)) y7.heap.size 0 none 0 0 0 0) := hid_of (Own4.newT _ _)
              obtain ⟨xb, hxb⟩ : ∃ x, y7.heap.size = x := ⟨_, rfl⟩
              have hxx : xr < xb := by rw [← hxb]; exact Nat.lt_of_succ_le S5.out.s
              have hsz : xb + 1 ≤ (y7.alloc (.cells #[.int .i64 0, .slice none 0 0, .int .i64 0, .int .i64 0] 58)).heap.size := by rw [← hxb]; simp
              generalize hW : World.alloc y7 _ = y6 at *
              rw [hxb] at V6 ⊢
              clear hW hxb hb P5 S5
              refine hZ (fun y => Own4 y xr 0 A L.length c F 30) (fun y => y = y6) _ _ rfl (fun y e => by rw [e]; exact S6.out.x) (fun _ hx => hx) ?_
              clear hZ Z
              refine wpQuiet_nil ?_
              refine ⟨_, rfl, rfl, turns_step2 fun Z hZ y8 h8 => ?_⟩
              subst h8
              go_simp
              with_reducible refine (put_v HX.out HF.out s0 s1 s2 s3 HEND.out hdat.out HM.out HG.out _ P6 (fun e => HPC.out.none_cap e)).mono ?_
              rintro e y9 ⟨A6, c6, rfl, hI, hb⟩
              have S8 := hid_of (S6.out.grow hb)
              have V8 := hid_of (V6.out.grow hb)
              have Q8 : Hid (∃ lo hi, QS y9 xr xb A6 M.length c6 lo hi (pcs d M)) := hid_of ⟨_, _, hI, by omega, Nat.le_refl _, .inr hsz⟩
              clear hI hb S6 V6 P6 hsz
              refine hZ (fun y => Own4 y xr 0 A L.length c F 30) (fun y => y = y9) _ _ rfl (fun y e => by rw [e]; exact S8.out.x) (fun _ hx => hx) ?_
              clear hZ Z
              have inst : Nonempty (In (fun y => Own4 y xr 0 A L.length c F 30)) := ⟨⟨y9, S8.out.x⟩⟩
              repeat (quiet_step (fail))
              refine wpQuiet_nil ?_
              clear inst
              refine ⟨_, rfl, rfl, turns_step2 fun Z hZ z8 h8 => ?_⟩
              subst h8
              obtain ⟨⟨v0, v1, v2, v3⟩, vf⟩ := V8.out
              go_simp
              have S9 := hid_of (S8.out.store4 hxx (.int .i64 0) (.slice A6 M.length c6) (.int .i64 G) (.int .i64 30))
              have V9 := hid_of (V8.out.setAll 0 A6 M.length c6 G 30)
              have Q9 : Hid (∃ lo hi, QS ((((z8.setCell ⟨xb, 0, none⟩ (.int .i64 0)).setCell ⟨xb, 1, none⟩ (.slice A6 M.length c6)).setCell ⟨xb, 2, none⟩ (.int .i64 G)).setCell ⟨xb, 3, none⟩ (.int .i64 30)) xr xb A6 M.length c6 lo hi (pcs d M)) := hid_of (Q8.out.elim fun lo h => h.elim fun hi h => ⟨lo, hi, h.store4 _ _ _ _⟩)
              generalize hW : World.setCell (World.setCell (World.setCell (World.setCell z8 _ _) _ _) _ _) _ _ = z9 at *
              clear hW v0 v1 v2 v3 vf S8 V8 Q8
              refine hZ (fun y => y = z9) (fun y => y = z9) _ _ rfl (fun _ hx => hx) (fun y e => by rw [e]; exact S9.out.x) ?_
              clear hZ Z
              have inst : Nonempty (In (fun y => y = z9)) := ⟨⟨z9, rfl⟩⟩
              repeat (quiet_step (fail))
              refine wpQuiet_nil ?_
              clear inst
              refine seq_last (C := fun y => y = z9) fun zz ez => ?_
              subst ez
              obtain ⟨⟨x0, x1, x2, x3⟩, xf⟩ := S9.out.x
              obtain ⟨⟨v0, v1, v2, v3⟩, vf⟩ := V9.out
              go_upto_region 12 with (fail)
              have S10 := hid_of (S9.out.last4 A6 M.length c6 G)
              have Q10 : Hid (PcIn ((((zz.setCell ⟨xr, 0, none⟩ (.int .i64 0)).setCell ⟨xr, 1, none⟩ (.slice A6 M.length c6)).setCell ⟨xr, 2, none⟩ (.int .i64 G)).setCell ⟨xr, 3, none⟩ (.int .i64 30)) (xr + 1) ((((zz.setCell ⟨xr, 0, none⟩ (.int .i64 0)).setCell ⟨xr, 1, none⟩ (.slice A6 M.length c6)).setCell ⟨xr, 2, none⟩ (.int .i64 G)).setCell ⟨xr, 3, none⟩ (.int .i64 30)).heap.size A6 M.length c6 (pcs d M)) := hid_of (Q9.out.elim fun lo h => h.elim fun hi h => h.last4 _ _ _ _)
              generalize hW : World.setCell (World.setCell (World.setCell (World.setCell zz _ _) _ _) _ _) _ _ = z10 at *
              clear hW x0 x1 x2 x3 xf v0 v1 v2 v3 vf S9 V9 Q9
              go_wp2_with fail
              go_roundw
              case rel => exact ⟨k + 1, M, G, A6, c6, by go_num, by omega, HST, Q10, hid_of S10.out.x, S10.out.b, S10.out.s⟩
              case measure => simp [intOf]; omega

      · skip
        have hkP : k = P := by omega
        have hcv := HCV.out
        rw [hkP] at hcv
        obtain ⟨hG, hL⟩ := hcv.full HFI.out hm13
        clear hcv
        rcases hL with ⟨hd0, hL⟩ | ⟨hpos, hL⟩
        · have hF0 : F = 0 := by omega
          have hde : d = (⟨#[]⟩ : ByteArray) := ByteArray.size_eq_zero_iff.1 hd0
          clear hd0 hG hkP
          subst hF0
          subst hL
          have X : Hid (Own4 wq xr 0 A 0 c 0 30) := X
          have hn : A = none → c = 0 := fun e => HPC.out.none_cap e
          clear HPC HCV HFI
          subst hde
          obtain ⟨⟨x0, x1, x2, x3⟩, xf⟩ := X.out
          go_wp2_with fail
          with_reducible refine (read_nil wq hn).mono ?_
          rintro e w5 ⟨⟨A7, c7, rfl⟩, hb⟩
          have X := hid_of (X.out.grow hb)
          have BEL := BEL.trans (hb.mono BEL.size)
          clear x0 x1 x2 x3 xf hb
          go_upto_region 22 with (fail)
          generalize hW : World.alloc w5 _ = w6
          have hb7 : Below w5.heap.size w5 w6 := by rw [← hW]; exact ba (Below.refl _ _) _
          have V : Hid (Own4 w6 w5.heap.size 0 A7 0 c7 0 30) := by rw [← hW]; exact hid_of (Own4.newT _ _)
          have X := hid_of (X.out.grow hb7)
          have BEL := BEL.trans (hb7.mono BEL.size)
          clear hW
          obtain ⟨⟨x0, x1, x2, x3⟩, xf⟩ := X.out
          obtain ⟨⟨v0, v1, v2, v3⟩, vf⟩ := V.out
          go_wp2_with (first
            | (go_at_call 44; (with_reducible refine (rready_nil _).mono ?_); rintro e wn ⟨rfl, hb⟩; have X := hid_of (X.out.grow hb); have V := hid_of (V.out.grow hb); have BEL := BEL.trans (hb.mono BEL.size); clear x0 x1 x2 x3 xf v0 v1 v2 v3 vf hb; obtain ⟨⟨x0, x1, x2, x3⟩, xf⟩ := X.out; obtain ⟨⟨v0, v1, v2, v3⟩, vf⟩ := V.out)
            | (go_at_call 45; (with_reducible refine (rended_v ⟨by omega, by omega⟩ _).mono ?_); rintro e wn ⟨rfl, hb⟩; have X := hid_of (X.out.grow hb); have V := hid_of (V.out.grow hb); have BEL := BEL.trans (hb.mono BEL.size); clear x0 x1 x2 x3 xf v0 v1 v2 v3 vf hb; obtain ⟨⟨x0, x1, x2, x3⟩, xf⟩ := X.out; obtain ⟨⟨v0, v1, v2, v3⟩, vf⟩ := V.out))
          go_ret
          exact ⟨rfl, BEL⟩
        · clear hkP
          subst hG
          subst hL
          have X : Hid (Own4 wq xr 0 A 1 c (d.size : Int) 30) := X
          have HPC : Hid (PcIn wq (xr + 1) wq.heap.size A 1 c [⟨0, d⟩]) := by rw [← pcs_one]; exact HPC
          have hn : A = none → c = 0 := fun e => HPC.out.none_cap e
          clear HCV HFI
          have RD := HPC.out.reads
          clear HPC
          obtain ⟨⟨x0, x1, x2, x3⟩, xf⟩ := X.out
          go_wp2_with fail
          with_reducible refine (read_one hpos hd30' wq RD hn).mono ?_
          rintro e w5 ⟨⟨A7, c7, rfl⟩, hb⟩
          have RD := hid_of (RD.below hb)
          have X := hid_of (X.out.grow hb)
          have BEL := BEL.trans (hb.mono BEL.size)
          clear x0 x1 x2 x3 xf hb
          go_upto_region 22 with (fail)
          generalize hW : World.alloc w5 _ = w6
          have hb7 : Below w5.heap.size w5 w6 := by rw [← hW]; exact ba (Below.refl _ _) _
          have V : Hid (Own4 w6 w5.heap.size (d.size : Int) A7 0 c7 (d.size : Int) 30) := by rw [← hW]; exact hid_of (Own4.newT _ _)
          have X := hid_of (X.out.grow hb7)
          have BEL := BEL.trans (hb7.mono BEL.size)
          clear hW
          obtain ⟨⟨x0, x1, x2, x3⟩, xf⟩ := X.out
          obtain ⟨⟨v0, v1, v2, v3⟩, vf⟩ := V.out
          have RD := hid_of (RD.out.below hb7)
          go_wp2_with (first
            | (go_at_call 44; (with_reducible refine (rready_one hpos hd30' _ RD.out).mono ?_); rintro e wn ⟨rfl, hb⟩; have X := hid_of (X.out.grow hb); have V := hid_of (V.out.grow hb); have BEL := BEL.trans (hb.mono BEL.size); clear x0 x1 x2 x3 xf v0 v1 v2 v3 vf hb; obtain ⟨⟨x0, x1, x2, x3⟩, xf⟩ := X.out; obtain ⟨⟨v0, v1, v2, v3⟩, vf⟩ := V.out)
            | (go_at_call 45; (with_reducible refine (rended_v ⟨by omega, by omega⟩ _).mono ?_); rintro e wn ⟨rfl, hb⟩; have X := hid_of (X.out.grow hb); have V := hid_of (V.out.grow hb); have BEL := BEL.trans (hb.mono BEL.size); clear x0 x1 x2 x3 xf v0 v1 v2 v3 vf hb; obtain ⟨⟨x0, x1, x2, x3⟩, xf⟩ := X.out; obtain ⟨⟨v0, v1, v2, v3⟩, vf⟩ := V.out))
          go_ret
          exact ⟨rfl, BEL⟩

end Go.Proofs.Ytmkmaeblnnfheaa
