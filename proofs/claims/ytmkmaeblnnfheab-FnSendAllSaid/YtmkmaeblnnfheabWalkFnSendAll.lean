/- The walk of the law FnSendAll. -/
import Derived.Test.YtmkmaeblnnfheabLawKit
import Derived.Test.YtmkmaeblnnfheabMg6
import Derived.Test.YtmkmaeblnnfheabAllC
import Derived.Test.YtmkmaeblnnfheabDoneC
import Derived.Test.YtmkmaeblnnfheabMg5
namespace Go.Proofs.Ytmkmaeblnnfheab
open Go.RowKit
attribute [local irreducible] Go.wpQuiet

set_option linter.unusedVariables false in
set_option maxRecDepth 100000 in
set_option maxHeartbeats 8000000 in
theorem walkFnSendAll (w : World) (a : Option Addr) (len cap : Nat) (zs : List Int) (h : IsRow .u8 w a len cap zs) (a' : Option Addr) (len' cap' : Nat) (zs' : List Int) (h' : IsRow .u8 w a' len' cap' zs') :
    Calls Try.prog 10 #[.slice a len cap, .slice a' len' cap'] w fun e w' => e = .returned (.bool true) ∧ Below w.heap.size w w' := by
  by_cases hllen : 1048576 < len
  · go_enter Try.func10, Try.ntmps10
    go_wp2
    go_ret
    exact ⟨rfl, Below.refl _ _⟩
  by_cases hllen' : 1048576 < len'
  · go_enter Try.func10, Try.ntmps10
    go_wp2
    go_ret
    exact ⟨rfl, Below.refl _ _⟩
  have hlen0 : (0 : Int) ≤ (len' : Int) ∧ (len' : Int) ≤ 1048576 := by omega
  have BEL : Below w.heap.size w w := Below.refl _ _
  go_enter Try.func10, Try.ntmps10
  go_wp2_with fail
  with_reducible refine (drawWrite_any _ a len cap zs h).mono ?_
  rintro e w1 ⟨d, f, l, n', LA, LB, A, ca, B, cb, _, rfl, ⟨D, rfl, hD⟩, ⟨hd, hA, hB⟩, hI, hJ, hb⟩
  have hsz1 := hb.size
  have BEL := BEL.trans (hb.mono BEL.size)
  have I0 := hid_of (In2.of hI hJ)
  clear hI hJ hb
  clear h h'
  cases hd30 : decide ((30 : Int) < (d.size : Int)) with
  | true =>
    have hd30i : (30 : Int) < (d.size : Int) := of_decide_eq_true hd30
    go_wp2_with fail
    go_ret
    exact ⟨rfl, BEL.trans (ba (Below.refl _ _) _ |>.mono BEL.size)⟩
  | false =>
    have hd30i : ¬ ((30 : Int) < (d.size : Int)) := of_decide_eq_false hd30
    have hd30' : Hid (d.size ≤ 30) := hid_of (by omega)
    go_upto_region 4 with (fail)
    generalize hW : World.alloc w1 _ = w2
    have hb : Below w1.heap.size w1 w2 := by rw [← hW]; exact ba (Below.refl _ _) _
    have I0 := hid_of (I0.out.grow hb)
    have BEL := BEL.trans (hb.mono BEL.size)
    have hsz2 : w1.heap.size + 1 ≤ w2.heap.size := by rw [← hW]; simp
    have X5 : Hid (Own6 w2 w1.heap.size d f l n' A LA.length ca B LB.length cb) := by rw [← hW]; exact hid_of (Own6.newT _ _)
    clear hW hb
    obtain ⟨x5, hx5⟩ : ∃ x, w1.heap.size = x := ⟨_, rfl⟩
    rw [hx5] at X5 ⊢
    obtain ⟨⟨c50, c51, c52, c53, c54, c55⟩, c5f⟩ := X5.out
    go_wp2_with fail
    clear c50 c51 c52 c53 c54 c55 c5f
    with_reducible refine (sendnew_i _).mono ?_
    rintro e w3 ⟨⟨LA0, LB0, rfl, hA0, hB0⟩, hb⟩
    have hsz3 := hb.size
    have X5 := hid_of (X5.out.grow hb)
    have I0 := hid_of (I0.out.grow hb)
    have BEL := BEL.trans (hb.mono BEL.size)
    clear hb
    have I1 : Hid (In2 w3 none 0 LA0 none 0 LB0) := by subst hA0; subst hB0; exact hid_of ⟨⟨rfl, fun h => absurd h (Nat.lt_irrefl 0)⟩, ⟨rfl, fun h => absurd h (Nat.lt_irrefl 0)⟩, fun _ => rfl, fun _ => rfl, Nat.le_refl _, Nat.le_refl _⟩
    have hl0 : LA0.length ≤ 16 ∧ LB0.length ≤ 16 := by subst hA0; subst hB0; exact ⟨Nat.zero_le _, Nat.zero_le _⟩
    obtain ⟨hla0, hlb0⟩ := hl0
    obtain ⟨haw, hok⟩ := all_write hA0 hB0 hd30'.out
    have HAW := hid_of haw
    have HOK := hid_of hok
    have HU := hid_of (all_start (d := d) hA0 hB0)
    clear haw hok hA0 hB0
    go_upto_region 7 with (fail)
    generalize hW : World.alloc w3 _ = w4
    have hb : Below w3.heap.size w3 w4 := by rw [← hW]; exact ba (Below.refl _ _) _
    have X5 := hid_of (X5.out.grow hb)
    have I0 := hid_of (I0.out.grow hb)
    have I1 := hid_of (I1.out.grow hb)
    have BEL := BEL.trans (hb.mono BEL.size)
    have hsz4 : w3.heap.size + 1 ≤ w4.heap.size := by rw [← hW]; simp
    have X7 : Hid (Own6 w4 w3.heap.size (⟨#[]⟩ : ByteArray) false 30 0 none LA0.length 0 none LB0.length 0) := by rw [← hW]; exact hid_of (Own6.newT _ _)
    clear hW hb
    obtain ⟨x7, hx7⟩ : ∃ x, w3.heap.size = x := ⟨_, rfl⟩
    rw [hx7] at X7 ⊢
    have h57 : x5 < x7 ∧ w.heap.size ≤ x7 ∧ x7 + 1 ≤ w4.heap.size := by have := BEL.size; omega
    obtain ⟨⟨c50, c51, c52, c53, c54, c55⟩, c5f⟩ := X5.out
    obtain ⟨⟨c70, c71, c72, c73, c74, c75⟩, c7f⟩ := X7.out
    go_wp2_with fail
    clear c50 c51 c52 c53 c54 c55 c5f
    clear c70 c71 c72 c73 c74 c75 c7f
    with_reducible refine (write_i _ _ _ _ LA0 LB0 none 0 none 0 d _ I1.out.a I1.out.b I1.out.ea I1.out.eb (by omega) (by omega) (by omega)).mono ?_
    rw [HAW.out]
    rintro e w5 ⟨⟨_, rfl, A2, c2a, B2, c2b, rfl, hI, hJ, hap⟩, hb⟩
    dsimp only at hI hJ
    have hsz5 := hb.size
    have X5 := hid_of (X5.out.grow hb)
    have X7 := hid_of (X7.out.grow hb)
    have I0 := hid_of (I0.out.grow hb)
    have I1 := hid_of (I1.out.grow hb)
    have BEL := BEL.trans (hb.mono BEL.size)
    have J2 := hid_of (InHi.of hI hJ (show x7 + 1 ≤ _ by omega))
    have I2 := hid_of (In2.of hI hJ)
    clear hI hJ hap hb
    clear I0 I1 HAW
    obtain ⟨⟨c70, c71, c72, c73, c74, c75⟩, c7f⟩ := X7.out
    go_upto_region 8 with (fail)
    generalize hW : World.setCell (World.setCell (World.setCell (World.setCell (World.setCell (World.setCell w5 _ _) _ _) _ _) _ _) _ _) _ _ = w6
    clear c70 c71 c72 c73 c74 c75 c7f
    have BEL : Below w.heap.size w w6 := by
      rw [← hW]
      repeat refine Below.setCell ?_ (by dsimp only; omega) _
      exact BEL
    have X5 : Hid (Own6 w6 x5 d f l n' A LA.length ca B LB.length cb) := by rw [← hW]; exact hid_of (X5.out.touch (touch6 _ _ _ _ _ _ _ _) (by omega))
    have X7 : Hid (Own6 w6 x7 d false 30 0 A2 LA0.length c2a B2 LB0.length c2b) := by rw [← hW]; exact hid_of (X7.out.setAll _ _ _ _ _ _ _ _ _ _)
    have J2 : Hid (InHi w6 (x7 + 1) A2 c2a LA0 B2 c2b LB0) := by rw [← hW]; exact hid_of (J2.out.hole6 (Nat.lt_succ_self _) _ _ _ _ _ _)
    have I2 := hid_of J2.out.in2
    have hsz6 : w5.heap.size ≤ w6.heap.size := by rw [← hW]; simp [World.setCell]
    clear hW
    obtain ⟨⟨c70, c71, c72, c73, c74, c75⟩, c7f⟩ := X7.out
    go_wp2_with fail
    clear c70 c71 c72 c73 c74 c75 c7f
    with_reducible refine (finish_i_ok _ _ _ LA0 LB0 A2 c2a B2 c2b  _ I2.out.a I2.out.b I2.out.ea I2.out.eb (by omega) (by omega) HOK).mono ?_
    rintro e w7 ⟨⟨_, rfl, A3, c3a, B3, c3b, rfl, hI, hJ, hap⟩, hb⟩
    dsimp only at hI hJ
    have hsz7 := hb.size
    have X5 := hid_of (X5.out.grow hb)
    have X7 := hid_of (X7.out.grow hb)
    have I2 := hid_of (I2.out.grow hb)
    have J2 := hid_of (J2.out.grow hb)
    have BEL := BEL.trans (hb.mono BEL.size)
    have J3 := hid_of (InHi.of hI hJ (show x7 + 1 ≤ _ by omega))
    have I3 := hid_of (In2.of hI hJ)
    clear hI hJ hap hb
    clear I2 J2 HOK
    obtain ⟨⟨c70, c71, c72, c73, c74, c75⟩, c7f⟩ := X7.out
    go_upto_region 9 with (fail)
    generalize hW : World.setCell (World.setCell (World.setCell (World.setCell (World.setCell (World.setCell w7 _ _) _ _) _ _) _ _) _ _) _ _ = w8
    clear c70 c71 c72 c73 c74 c75 c7f
    have BEL : Below w.heap.size w w8 := by
      rw [← hW]
      repeat refine Below.setCell ?_ (by dsimp only; omega) _
      exact BEL
    have X5 : Hid (Own6 w8 x5 d f l n' A LA.length ca B LB.length cb) := by rw [← hW]; exact hid_of (X5.out.touch (touch6 _ _ _ _ _ _ _ _) (by omega))
    have X7 : Hid (Own6 w8 x7 d true 30 0 A3 LA0.length c3a B3 LB0.length c3b) := by rw [← hW]; exact hid_of (X7.out.setAll _ _ _ _ _ _ _ _ _ _)
    have J3 : Hid (InHi w8 (x7 + 1) A3 c3a LA0 B3 c3b LB0) := by rw [← hW]; exact hid_of (J3.out.hole6 (Nat.lt_succ_self _) _ _ _ _ _ _)
    have I3 := hid_of J3.out.in2
    have hsz8 : w7.heap.size ≤ w8.heap.size := by rw [← hW]; simp [World.setCell]
    clear hW
    go_wp2_with fail
    go_loopw [11, 12] (fun s i wr => ∃ (k : Nat) (n : Int) (T : ByteArray) (MA MB : List Rg) (U : Option Addr) (cu : Nat) (V : Option Addr) (cv : Nat), s = .string T ∧ i = .int .i64 (k : Nat) ∧ k ≤ 40 ∧ (k : Int) ≤ n ∧ n ≤ d.size + 1 ∧ Hid (T = d.extract 0 (min n d.size).toNat) ∧ Hid ((⟨d, true, 30, n, MA, MB⟩ : Sd) = upto d n) ∧ Hid (InHi wr (x7 + 1) U cu MA V cv MB) ∧ Hid (Own6 wr x7 d true 30 n U MA.length cu V MB.length cv) ∧ Hid (Own6 wr x5 d f l n' A LA.length ca B LB.length cb) ∧ Below w.heap.size w wr ∧ x7 + 1 ≤ wr.heap.size) (fun _ i _ => 40 - (intOf i).toNat)
    case atStart => exact ⟨0, 0, _, LA0, LB0, A3, c3a, B3, c3b, rfl, rfl, by omega, by omega, by omega, hid_of all_zero, HU, J3, X7, X5, BEL, by omega⟩
    case round =>
      clear X5 X7 I3 J3 BEL HU hla0 hlb0
      rename World => w9
      obtain ⟨k, n, T, MA, MB, U, cu, V, cv, rfl, rfl, hk, hkn, hn1, HT, HU, J0, X7, X5, BEL, hx9⟩ := hrel
      have I0 := hid_of J0.out.in2
      by_cases hlt : k < 40
      rotate_left
      · exfalso; omega
      have hemod : 0 ≤ ((k : Int) + (len' : Int)) % 12 ∧ ((k : Int) + (len' : Int)) % 12 < 12 := ⟨Int.emod_nonneg _ (by decide), Int.emod_lt_of_pos _ (by decide)⟩
      obtain ⟨q, hq⟩ : ∃ q, ((k : Int) + (len' : Int)) % 12 = q := ⟨_, rfl⟩
      rw [hq] at hemod
      have hqt : ((k : Int) + (len' : Int)).tmod 12 = q := by rw [← hq]; exact Int.tmod_eq_emod_of_nonneg (by omega)
      have hwr : IntKind.i64.wrap ((k : Int) + (len' : Int)) = (k : Int) + (len' : Int) := IntWalk.i64_in _ (by omega)
      have hwq : IntKind.i64.wrap q = q := IntWalk.i64_in _ (by omega)
      have hwq1 : IntKind.i64.wrap (1 + q) = 1 + q := IntWalk.i64_in _ (by omega)
      obtain ⟨⟨hla, hlb⟩, hst⟩ := all_step (k := 1 + q) hd30'.out (by omega) hn1 (by omega) (by omega) HU.out
      rcases hst with ⟨hdn, htx, d1, f1, l1, n1, LA1, LB1, o2, d2, f2, hx, hla1, hlb1⟩ | ⟨m, d1, f1, l1, n1, LA1, LB1, o2, d2, f2, LA2, LB2, hm0, hm1, hx, hak, hum, htm, hd2, hla1, hlb1⟩
      · skip
        have HDN := hid_of hdn
        have hte : (T.toList == d.toList) = true := by rw [HT.out, htx]; exact beq_self_eq_true _
        clear hdn htx
        have HX := hid_of hx
        clear hx
        obtain ⟨⟨c70, c71, c72, c73, c74, c75⟩, c7f⟩ := X7.out
        go_wp2_with fail
        clear c70 c71 c72 c73 c74 c75 c7f
        with_reducible refine (snext_i _ _ _ _ MA MB U cu V cv (1 + q) _ I0.out.a I0.out.b I0.out.ea I0.out.eb (by omega) (by omega)).mono ?_
        rw [HX.out]
        rintro e w10 ⟨⟨_, rfl, A1, c1a, B1, c1b, rfl, hI, hJ, hap⟩, hb⟩
        dsimp only at hI hJ
        have hsz10 := hb.size
        have X5 := hid_of (X5.out.grow hb)
        have X7 := hid_of (X7.out.grow hb)
        have I0 := hid_of (I0.out.grow hb)
        have BEL := BEL.trans (hb.mono BEL.size)
        have I1 := hid_of (In2.of hI hJ)
        clear hI hJ hap hb
        go_upto_region 14 with (fail)
        generalize hW : World.alloc (World.alloc w10 _) _ = w11
        have hb : Below w10.heap.size w10 w11 := by rw [← hW]; exact ba (ba (Below.refl _ _) _) _
        have X5 := hid_of (X5.out.grow hb)
        have X7 := hid_of (X7.out.grow hb)
        have I0 := hid_of (I0.out.grow hb)
        have I1 := hid_of (I1.out.grow hb)
        have BEL := BEL.trans (hb.mono BEL.size)
        have hsz11 : w10.heap.size + 2 ≤ w11.heap.size := by rw [← hW]; simp
        have X13 : Hid (Own6 w11 w10.heap.size d1 f1 l1 n1 A1 LA1.length c1a B1 LB1.length c1b) := by rw [← hW]; exact hid_of ((Own6.newT _ _).alloc _)
        have X14 : Hid (Own3 w11 (w10.heap.size + 1) o2 d2 f2) := by rw [← hW]; exact hid_of (Own3.newT2 _ _)
        clear hW hb
        obtain ⟨⟨c50, c51, c52, c53, c54, c55⟩, c5f⟩ := X5.out
        obtain ⟨⟨c70, c71, c72, c73, c74, c75⟩, c7f⟩ := X7.out
        go_wp2_with (go_at_call 41; (with_reducible refine (done_i HDN.out _ I0.out.a I0.out.b (by omega) (by omega)).mono ?_); rintro e wn ⟨rfl, hb⟩; have X5 := hid_of (X5.out.grow hb); have X7 := hid_of (X7.out.grow hb); have X13 := hid_of (X13.out.grow hb); have X14 := hid_of (X14.out.grow hb); have I0 := hid_of (I0.out.grow hb); have I1 := hid_of (I1.out.grow hb); have BEL := BEL.trans (hb.mono BEL.size); obtain ⟨⟨c50, c51, c52, c53, c54, c55⟩, c5f⟩ := X5.out; obtain ⟨⟨c70, c71, c72, c73, c74, c75⟩, c7f⟩ := X7.out; clear hb)
        go_ret
        exact ⟨rfl, BEL⟩
      · skip
        have HAK := hid_of hak
        have HUM := hid_of hum
        have HTM := hid_of htm
        have hT : T.size ≤ 30 := by rw [HT.out, ByteArray.size_extract]; omega
        have hcat : ¬ (9223372036854775807 < T.size + d2.size) := by omega
        clear hak hum htm
        have HX := hid_of hx
        clear hx
        obtain ⟨⟨c70, c71, c72, c73, c74, c75⟩, c7f⟩ := X7.out
        go_wp2_with fail
        clear c70 c71 c72 c73 c74 c75 c7f
        with_reducible refine (snext_i _ _ _ _ MA MB U cu V cv (1 + q) _ I0.out.a I0.out.b I0.out.ea I0.out.eb (by omega) (by omega)).mono ?_
        rw [HX.out]
        rintro e w10 ⟨⟨_, rfl, A1, c1a, B1, c1b, rfl, hI, hJ, hap⟩, hb⟩
        dsimp only at hI hJ
        have hsz10 := hb.size
        have X5 := hid_of (X5.out.grow hb)
        have X7 := hid_of (X7.out.grow hb)
        have I0 := hid_of (I0.out.grow hb)
        have BEL := BEL.trans (hb.mono BEL.size)
        have I1 := hid_of (In2.of hI hJ)
        clear hI hJ hap hb
        go_upto_region 14 with (fail)
        generalize hW : World.alloc (World.alloc w10 _) _ = w11
        have hb : Below w10.heap.size w10 w11 := by rw [← hW]; exact ba (ba (Below.refl _ _) _) _
        have X5 := hid_of (X5.out.grow hb)
        have X7 := hid_of (X7.out.grow hb)
        have I0 := hid_of (I0.out.grow hb)
        have I1 := hid_of (I1.out.grow hb)
        have BEL := BEL.trans (hb.mono BEL.size)
        have hsz11 : w10.heap.size + 2 ≤ w11.heap.size := by rw [← hW]; simp
        have X13 : Hid (Own6 w11 w10.heap.size d1 f1 l1 n1 A1 LA1.length c1a B1 LB1.length c1b) := by rw [← hW]; exact hid_of ((Own6.newT _ _).alloc _)
        have X14 : Hid (Own3 w11 (w10.heap.size + 1) o2 d2 f2) := by rw [← hW]; exact hid_of (Own3.newT2 _ _)
        clear hW hb
        obtain ⟨⟨c130, c131, c132, c133, c134, c135⟩, c13f⟩ := X13.out
        obtain ⟨⟨c140, c141, c142⟩, c14f⟩ := X14.out
        go_wp2_with fail
        clear c130 c131 c132 c133 c134 c135 c13f
        clear c140 c141 c142 c14f
        with_reducible refine (sack_i _ _ _ _ LA1 LB1 A1 c1a B1 c1b o2 d2 f2 _ I1.out.a I1.out.b I1.out.ea I1.out.eb (by omega) (by omega) (by omega) I1.out.la).mono ?_
        rw [HAK.out]
        rintro e w12 ⟨⟨_, rfl, A2, c2a, B2, c2b, rfl, hI, hJ, hap⟩, hb⟩
        dsimp only at hI hJ
        have hsz12 := hb.size
        have X5 := hid_of (X5.out.grow hb)
        have X7 := hid_of (X7.out.grow hb)
        have X13 := hid_of (X13.out.grow hb)
        have X14 := hid_of (X14.out.grow hb)
        have I0 := hid_of (I0.out.grow hb)
        have I1 := hid_of (I1.out.grow hb)
        have BEL := BEL.trans (hb.mono BEL.size)
        have J2 := hid_of (InHi.of hI hJ (show x7 + 1 ≤ _ by omega))
        have I2 := hid_of (In2.of hI hJ)
        clear hI hJ hap hb
        go_upto_region 17 with (fail)
        generalize hW : World.alloc w12 _ = w13
        have hb : Below w12.heap.size w12 w13 := by rw [← hW]; exact ba (Below.refl _ _) _
        have X5 := hid_of (X5.out.grow hb)
        have X7 := hid_of (X7.out.grow hb)
        have X13 := hid_of (X13.out.grow hb)
        have X14 := hid_of (X14.out.grow hb)
        have I0 := hid_of (I0.out.grow hb)
        have I1 := hid_of (I1.out.grow hb)
        have I2 := hid_of (I2.out.grow hb)
        have J2 := hid_of (J2.out.grow hb)
        have BEL := BEL.trans (hb.mono BEL.size)
        have hsz13 : w12.heap.size + 1 ≤ w13.heap.size := by rw [← hW]; simp
        have X16 : Hid (Own6 w13 w12.heap.size d true 30 m A2 LA2.length c2a B2 LB2.length c2b) := by rw [← hW]; exact hid_of (Own6.newT _ _)
        clear hW hb
        obtain ⟨⟨c70, c71, c72, c73, c74, c75⟩, c7f⟩ := X7.out
        obtain ⟨⟨c160, c161, c162, c163, c164, c165⟩, c16f⟩ := X16.out
        go_upto_region 12 with (fail)
        generalize hW : World.setCell (World.setCell (World.setCell (World.setCell (World.setCell (World.setCell w13 _ _) _ _) _ _) _ _) _ _) _ _ = w14
        clear c70 c71 c72 c73 c74 c75 c7f
        clear c160 c161 c162 c163 c164 c165 c16f
        have BEL : Below w.heap.size w w14 := by
          rw [← hW]
          repeat refine Below.setCell ?_ (by dsimp only; omega) _
          exact BEL
        have X5 : Hid (Own6 w14 x5 d f l n' A LA.length ca B LB.length cb) := by rw [← hW]; exact hid_of (X5.out.touch (touch6 _ _ _ _ _ _ _ _) (by omega))
        have X7 : Hid (Own6 w14 x7 d true 30 m A2 LA2.length c2a B2 LB2.length c2b) := by rw [← hW]; exact hid_of (X7.out.setAll _ _ _ _ _ _ _ _ _ _)
        have J2 : Hid (InHi w14 (x7 + 1) A2 c2a LA2 B2 c2b LB2) := by rw [← hW]; exact hid_of (J2.out.hole6 (Nat.lt_succ_self _) _ _ _ _ _ _)
        have I2 := hid_of J2.out.in2
        have hsz14 : w13.heap.size ≤ w14.heap.size := by rw [← hW]; simp [World.setCell]
        clear hW
        go_wp2_with fail
        go_roundw
        case rel => exact ⟨k + 1, m, _, LA2, LB2, A2, c2a, B2, c2b, rfl, by go_num, by omega, by omega, hm1, hid_of (by rw [HT.out]; exact HTM.out), HUM, J2, X7, X5, BEL, by omega⟩
        case measure => simp [intOf]; omega

end Go.Proofs.Ytmkmaeblnnfheab
