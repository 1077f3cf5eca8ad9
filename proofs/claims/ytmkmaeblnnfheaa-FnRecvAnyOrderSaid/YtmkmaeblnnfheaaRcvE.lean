/- A piece is put among others: mergedPieces. -/
import Derived.Test.YtmkmaeblnnfheaaRcvD
import Derived.Test.YtmkmaeblnnfheaaMg4
namespace Go.Proofs.Ytmkmaeblnnfheaa
open Go.RowKit
attribute [local irreducible] Go.wpQuiet

/-- New pieces of a text were handed back. -/
def GotPcs (w : World) (D : ByteArray) (T : List Rg) (e : Ending) (w' : World) : Prop := ∃ A c, e = .returned (.slice A T.length c) ∧ PcIn w' w.heap.size w'.heap.size A T.length c (pcs D T) ∧ Below w.heap.size w w'
theorem pc_drop {w : World} {g off n k : Nat} {L : List Pc} (h : PcAt w (some ⟨g, off, none⟩) n L) (hk : k ≤ n) : PcAt w (some ⟨g, off + k * 2, none⟩) (n - k) (L.drop k) := by
  refine ⟨by rw [List.length_drop, h.1], fun hn => ?_⟩
  obtain ⟨b, o, e, hb, hc⟩ := h.2 (by omega)
  cases e
  refine ⟨g, off + k * 2, rfl, hb, fun i hi => ?_⟩
  obtain ⟨h0, h1⟩ := hc (k + i) (by omega)
  rw [qth_drop (by rw [h.1]; omega), show off + k * 2 + i * 2 = off + (k + i) * 2 from by omega]
  exact ⟨h0, h1⟩
theorem PcIn.setLow {w : World} {B S : Nat} {A : Option Addr} {n c : Nat} {L : List Pc} (h : PcIn w B S A n c L) {p : Addr} (hp : p.block < B) (u : Value) : PcIn (w.setCell p u) B S A n c L :=
  ⟨h.1, RowIn.same h.2 (by simp [World.setCell]) fun g e hb _ => Below.heap_setCell w p u g (by omega)⟩
theorem PcIn.grow {w w' : World} {B : Nat} {A : Option Addr} {n c : Nat} {L : List Pc} (h : PcIn w B w.heap.size A n c L) (hb : Below w.heap.size w w') : PcIn w' B w'.heap.size A n c L := (h.below hb).mono (Nat.le_refl _) hb.size
theorem alloc_touch' {w w' : World} {o : Obj} {B S : Nat} (h : Touch (w.alloc o) w' B S) : Touch w w' B S :=
  ⟨h.os, h.tape, h.output, Nat.le_trans (by simp) h.size, fun k hk hb => (h.block k (by simp; omega) hb).trans (Below.heap_alloc w o k hk)⟩

set_option maxRecDepth 100000 in
set_option maxHeartbeats 8000000 in
theorem mp_some {D : ByteArray} {L : List Rg} {lo hi : Int} {dat : ByteArray} (hx : Rx D L) (h0 : 0 ≤ lo) (h1 : lo ≤ hi) (h2 : hi < D.size) (hdat : dat = D.extract lo.toNat (hi + 1).toNat) (w : World) {g off c : Nat} (h : PcAt w (some ⟨g, off, none⟩) L.length (pcs D L)) (hcap : L.length ≤ c) :
    Calls Try.prog 79 #[.slice (some ⟨g, off, none⟩) L.length c, .agg #[.int .i64 lo, .string dat]] w (GotPcs w D (add L lo hi)) := by
  have HX := hid_of hx
  have hlen := hx.len
  have hfew := hx.few
  have HDAT := hid_of hdat
  obtain ⟨T, hT⟩ : ∃ T, add L lo hi = T := ⟨_, rfl⟩
  have HT : Hid (T = [] ++ add (L.drop 0) lo hi) := by rw [List.drop_zero]; exact hT.symm
  rw [hT]
  have hX := Own2.newT (o := lo) (d := dat) w 92
  have hb0 : Below w.heap.size w (w.alloc (.cells #[.int .i64 lo, .string dat] 92)) := (Below.refl _ w).alloc (Nat.le_refl _) _
  have hs0 : (w.alloc (.cells #[.int .i64 lo, .string dat] 92)).heap.size = w.heap.size + 1 := by simp
  clear hx hT hdat
  go_enter Try.func79, Try.ntmps79
  go_wp2_with fail
  generalize hW : World.alloc w _ = W1 at hX hb0 hs0 ⊢
  clear hW
  go_loopw [5, 6] (fun s i wr => ∃ (k : Nat) (A' : Option Addr) (c' m : Nat) (OO : List Rg), i = .int .i64 (k : Nat) ∧ s = .slice A' m c' ∧ k ≤ L.length ∧ m ≤ k ∧ Hid (T = OO ++ add (L.drop k) lo hi) ∧ Hid (∀ j, k ≤ j → j < L.length → 0 ≤ (rth L j).hi) ∧ Hid (PcIn wr (w.heap.size + 1) wr.heap.size A' m c' (pcs D OO)) ∧ Below W1.heap.size W1 wr) (fun _ i _ => L.length - (intOf i).toNat)
  case atStart => exact ⟨0, none, 0, 0, [], rfl, rfl, Nat.zero_le _, Nat.le_refl _, HT, hid_of (fun j _ hj => by have := HX.out.at_ hj; omega), hid_of (PcIn.empty _ _ _ _), Below.refl _ _⟩
  case round =>
    clear HT
    obtain ⟨k, A', c', m, OO, rfl, rfl, hk, hm, HT, -, hI, hb⟩ := hrel
    have hbw : Below w.heap.size w _ := hb0.trans (hb.mono hb0.size)
    obtain ⟨⟨x0, x1⟩, xf⟩ := hX.grow hb
    rename World => wr
    by_cases hlt : k < L.length
    · skip
      obtain ⟨g', off', eg, hgl, hc⟩ := (h.below hbw).2 (by omega)
      cases eg
      obtain ⟨c0, c1⟩ := hc k hlt
      obtain ⟨q1, q2, q3⟩ := HX.out.at_ hlt
      have hsz := pce_size q1 q2 q3
      have has := fun x => add_step (L := L) (k := k) (lo := lo) (hi := hi) hlt x
      have hst := fun x => add_stop (L := L) (k := k) (lo := lo) (hi := hi) x
      have hbnd : ∀ j, k ≤ j → j < L.length → (rth L k).hi ≤ (rth L j).hi := fun j hj hjl => by
        rcases (show k = j ∨ k < j from by omega) with e | e
        · rw [e]; exact Int.le_refl _
        · have := canon_get HX.out.c e hjl; have := HX.out.at_ hjl; omega
      rw [pcs_th hlt] at c0 c1
      obtain ⟨⟨o, qd⟩, hp⟩ : ∃ p, pce D (rth L k) = p := ⟨_, rfl⟩
      have ho : (rth L k).lo = o := congrArg Pc.o hp
      have hqd : qd = D.extract (rth L k).lo.toNat ((rth L k).hi + 1).toNat := (congrArg Pc.d hp).symm
      have hmem : rth L k ∈ L := rth_mem hlt
      obtain ⟨⟨rl, rh⟩, hr⟩ : ∃ r, rth L k = r := ⟨_, rfl⟩
      rw [hp] at c0 c1 hsz
      rw [hr] at hsz q1 q2 q3 ho hqd has hst hbnd
      dsimp only at c0 c1 hsz q1 q2 q3 ho hqd has hst hbnd
      subst ho
      have HPE : Hid (rl + qd.size = rh + 1) := hid_of (by omega)
      have hqs : qd.size ≤ 30 := by omega
      have HQD := hid_of hqd
      clear hc hp hr hqd hmem hsz
      have v0 := fun y => Up.cell c0 y
      have v1 := fun y => Up.cell c1 y
      have u0 := fun y => Up.cell x0 y
      have u1 := fun y => Up.cell x1 y

      have HAS := hid_of has
      have HST := hid_of hst
      have HBN := hid_of hbnd
      clear has hst hbnd
      cases t1 : decide (rh + 1 < lo) with
      | true =>
        have HT : Hid (T = (OO ++ [⟨rl, rh⟩]) ++ add (L.drop (k + 1)) lo hi) := hid_of (by have := HT.out; rw [HAS.out (of_decide_eq_true t1)] at this; rw [this, List.append_assoc])
        clear HAS HST HBN
        go_wp2_with fail
        refine wp_region_up (by kernel_rfl) (by kernel_rfl) ?_
        repeat (quiet_step ((go_at_call 99; with_reducible exact up_of fun w' hb' => pend_v HPE.out w' (by omega) (by omega))))
        refine wpQuiet_nil ?_
        intro w2 hb2
        have d0 := (hb2.cell (p := ⟨g, off + k * 2, none⟩) hgl).trans c0
        have d1 := (hb2.cell (p := ⟨g, off + k * 2 + 1, none⟩) hgl).trans c1
        have hI2 := hid_of (hI.out.grow hb2)
        have hbW := hb.trans (hb2.mono hb.size)
        have hsW := hbW.size
        clear u0 u1 v0 v1 c0 c1 x0 x1 xf hI hb2 hb hbw
        have hpx : pcs D [⟨rl, rh⟩] = [⟨rl, qd⟩] := by show [pce D ⟨rl, rh⟩] = _; rw [show qd = D.extract rl.toNat (rh + 1).toNat from HQD.out]; rfl
        have HPX := hid_of hpx
        clear hpx
        go_wp2_with (at_builtin; refine wpList_snoc_pc _ rfl _ _ rfl ⟨rl, qd⟩ rfl (hI2.out.alloc _) (by simp; omega) (by omega) (by simp) rfl (by simp) (by simp) ?_; intro A3 c3 w3 hI3 ht3; have hb3 : Below W1.heap.size W1 w3 := below_touch hbW (alloc_touch ht3) (by omega) hsW; clear ht3)
        go_roundw
        case rel => exact ⟨k + 1, A3, c3, m + 1, OO ++ [⟨rl, rh⟩], by go_num, rfl, by omega, by omega, HT, hid_of (fun j _ hj => by have := HX.out.at_ hj; omega), hid_of (by rw [pcs_append, HPX.out]; exact hI3), hb3⟩
        case measure => simp [intOf]; omega
      | false =>
        have HT2 : Hid (T = OO ++ addMerge (L.drop k) lo hi) := hid_of (by have := HT.out; rw [HST.out (.inr (of_decide_eq_false t1))] at this; exact this)
        have HLO : Hid (∀ j, k ≤ j → j < L.length → lo ≤ (rth L j).hi + 1) := hid_of (fun j hj hjl => by have := HBN.out j hj hjl; have := of_decide_eq_false t1; omega)
        clear HAS HST HBN HT
        go_wp2_with fail
        refine wp_region_up (by kernel_rfl) (by kernel_rfl) ?_
        repeat (quiet_step ((go_at_call 99; with_reducible exact up_of fun w' hb' => pend_v HPE.out w' (by omega) (by omega))))
        refine wpQuiet_nil ?_
        intro w2 hb2
        have X2 := hid_of ((hX.grow hb).grow hb2)
        have hI2 := hid_of (hI.out.grow hb2)
        have hbW := hbw.trans (hb2.mono hbw.size)
        have hsW : w.heap.size + 1 ≤ w2.heap.size := by have := hb.size; have := hb2.size; omega
        clear u0 u1 v0 v1 c0 c1 x0 x1 xf hI hb2 hb hbw t1
        go_wp2_with fail
        have hm16 : m ≤ 16 := by omega
        clear hm
        go_loopw [6] (fun i wr => ∃ (k : Nat) (l' h' : Int) (dp : ByteArray), i = .int .i64 (k : Nat) ∧ k ≤ L.length ∧ (0 ≤ l' ∧ l' ≤ h' ∧ h' < D.size) ∧ Hid (dp = D.extract l'.toNat (h' + 1).toNat) ∧ Hid (T = OO ++ addMerge (L.drop k) l' h') ∧ Hid (∀ j, k ≤ j → j < L.length → l' ≤ (rth L j).hi + 1) ∧ Hid (Own2 wr w.heap.size l' dp) ∧ Hid (PcIn wr (w.heap.size + 1) wr.heap.size A' m c' (pcs D OO)) ∧ Below w.heap.size w wr ∧ w.heap.size + 1 ≤ wr.heap.size) (fun i _ => L.length - (intOf i).toNat)
        case atStart => exact ⟨k, lo, hi, dat, rfl, hk, ⟨h0, h1, h2⟩, HDAT, HT2, HLO, X2, hI2, hbW, hsW⟩
        case round =>
          clear HT2 HLO X2 hI2 hbW hsW hk
          obtain ⟨k, l', h', dp, rfl, hk, ⟨l0, l1, l2⟩, HDP, HT, HLO, hX2, hI, hbw, hsw⟩ := hrel
          rename World => wr
          have hds : (dp.size : Int) = h' + 1 - l' := by have := pce_size (D := D) (r := ⟨l', h'⟩) l0 l1 l2; rw [HDP.out]; exact this
          have HPP : Hid (l' + dp.size = h' + 1) := hid_of (by omega)
          have hd30 : dp.size ≤ 30 := by omega
          obtain ⟨⟨x0, x1⟩, xf⟩ := hX2.out
          clear hds
          by_cases hlt : k < L.length
          · skip
            obtain ⟨g', off', eg, hgl, hc⟩ := (h.below hbw).2 (by omega)
            cases eg
            obtain ⟨c0, c1⟩ := hc k hlt
            obtain ⟨q1, q2, q3⟩ := HX.out.at_ hlt
            have hsz := pce_size q1 q2 q3
            have hms := fun x => merge_step (L := L) (k := k) (lo := l') (hi := h') hlt x
            have hst := fun x => merge_stop (L := L) (k := k) (lo := l') (hi := h') x
            rw [pcs_th hlt] at c0 c1
            obtain ⟨⟨o, qd⟩, hp⟩ : ∃ p, pce D (rth L k) = p := ⟨_, rfl⟩
            have ho : (rth L k).lo = o := congrArg Pc.o hp
            have hqd : qd = D.extract (rth L k).lo.toNat ((rth L k).hi + 1).toNat := (congrArg Pc.d hp).symm
            have hmem : rth L k ∈ L := rth_mem hlt
            obtain ⟨⟨rl, rh⟩, hr⟩ : ∃ r, rth L k = r := ⟨_, rfl⟩
            rw [hp] at c0 c1 hsz
            rw [hr] at hsz q1 q2 q3 ho hqd hms hst
            dsimp only at c0 c1 hsz q1 q2 q3 ho hqd hms hst
            subst ho
            have HPE : Hid (rl + qd.size = rh + 1) := hid_of (by omega)
            have hqs : qd.size ≤ 30 := by omega
            have HQD := hid_of hqd
            have HR := hid_of hr
            clear hc hp hr hqd hmem hsz
            have v0 := fun y => Up.cell c0 y
            have v1 := fun y => Up.cell c1 y
            have u0 := fun y => Up.cell x0 y
            have u1 := fun y => Up.cell x1 y
            have HMS := hid_of hms
            have HST := hid_of hst
            clear hms hst
            cases t2 : decide (rl ≤ h' + 1) with
            | true =>
              have p2 := of_decide_eq_true t2
              have hlh := HLO.out k (Nat.le_refl _) hlt
              rw [HR.out] at hlh
              dsimp only at hlh
              have HT : Hid (T = OO ++ addMerge (L.drop (k + 1)) (min l' rl) (max h' rh)) := hid_of (by have := HT.out; rw [HMS.out p2] at this; exact this)
              clear HMS HST HR
              go_wp2_with fail
              refine wp_region_up (by kernel_rfl) (by kernel_rfl) ?_
              repeat (quiet_step ((go_at_call 99; with_reducible exact up_of fun w' hb' => pend_v HPP.out w' (by omega) (by omega))))
              refine wpQuiet_nil ?_
              intro w2 hb2
              have d0 := (hb2.cell (p := ⟨g, off + k * 2, none⟩) hgl).trans c0
              have d1 := (hb2.cell (p := ⟨g, off + k * 2 + 1, none⟩) hgl).trans c1
              have X3 := hid_of (hX2.out.grow hb2)
              have hI3 := hid_of (hI.out.grow hb2)
              have hb3 := hbw.trans (hb2.mono hbw.size)
              have hs3 : w.heap.size + 1 ≤ w2.heap.size := by have := hb2.size; omega
              clear u0 u1 v0 v1 c0 c1 x0 x1 xf hI hb2 hbw hX2 hgl t2
              go_upto_region 9 with (fail)
              generalize hW : World.alloc w2 _ = w4
              obtain ⟨qb, hqb⟩ : ∃ q, w2.heap.size = q := ⟨_, rfl⟩
              have hqp : w.heap.size < qb := by omega
              have Y4 : Hid (Own2 w4 qb rl qd) := by rw [← hW, ← hqb]; exact hid_of (Own2.newT _ _)
              have X4 : Hid (Own2 w4 w.heap.size l' dp) := by rw [← hW]; exact hid_of (X3.out.grow ((Below.refl _ _).alloc (Nat.le_refl _) _))
              have hI4 : Hid (PcIn w4 (w.heap.size + 1) w4.heap.size A' m c' (pcs D OO)) := by rw [← hW]; exact hid_of (hI3.out.grow ((Below.refl _ _).alloc (Nat.le_refl _) _))
              have hb4 : Below w.heap.size w w4 := by rw [← hW]; exact hb3.alloc (by omega) _
              have hs4 : w.heap.size + 1 ≤ w4.heap.size := by rw [← hW]; simp; omega
              have hqs4 : qb < w4.heap.size := by rw [← hW, ← hqb]; simp
              rw [hqb]
              clear hW hqb X3 hI3 hb3 hs3 d0 d1
              obtain ⟨⟨x0, x1⟩, xf⟩ := X4.out
              obtain ⟨⟨y0, y1⟩, yf⟩ := Y4.out
              cases t3 : decide (rl < l') with
              | true =>
                have p3 := of_decide_eq_true t3
                go_wp2_with fail
                have u0 := fun y => Up.cell x0 y
                have u1 := fun y => Up.cell x1 y
                have v0 := fun y => Up.cell y0 y
                have v1 := fun y => Up.cell y1 y
                obtain ⟨sn, hsn⟩ : ∃ x : Int, l' - rl = x := ⟨_, rfl⟩
                have hw1 : IntKind.i64.wrap (l' - rl) = sn := by rw [hsn]; exact IntWalk.i64_in _ (by omega)
                have b0 : 0 ≤ sn := by omega
                have b1 : sn ≤ (qd.size : Int) := by have := HPE.out; omega
                have hcat : ¬ (9223372036854775807 < (qd.extract 0 sn.toNat).size + dp.size) := by rw [ByteArray.size_extract]; omega
                have hcat2 : ¬ (9223372036854775807 < min sn.toNat qd.size + dp.size) := by omega
                have hcat3 : ¬ (9223372036854775807 < sn.toNat + dp.size) := by omega
                have hnew : qd.extract 0 sn.toNat ++ dp = D.extract rl.toNat (h' + 1).toNat := by rw [HQD.out, HDP.out, ← hsn]; exact merge_front (r := ⟨rl, rh⟩) q1 p3 hlh l1
                have HNW := hid_of hnew
                clear hsn hnew
                refine wp_region_up_tail 12 (by kernel_rfl) (by kernel_rfl) ?_
                simp only [List.take_succ_cons, List.take_zero, List.drop_succ_cons, List.drop_zero]
                repeat (quiet_step (fail))
                refine wpQuiet_nil ?_
                intro w7 hb7
                have X7 := hid_of (X4.out.grow hb7)
                have Y7 := hid_of (Y4.out.grow hb7)
                have hI7 := hid_of (hI4.out.grow hb7)
                have hb8 := hb4.trans (hb7.mono hb4.size)
                have hs7 := hb7.size
                clear u0 u1 v0 v1 x0 x1 xf y0 y1 yf X4 Y4 hI4 hb7 hw1 b0 b1 hcat hcat2 hcat3 hb4
                obtain ⟨⟨x0, x1⟩, xf⟩ := X7.out
                obtain ⟨⟨y0, y1⟩, yf⟩ := Y7.out
                obtain ⟨dm, hdm⟩ : ∃ x, qd.extract 0 sn.toNat ++ dp = x := ⟨_, rfl⟩
                have hnew := HNW.out
                rw [hdm] at hnew
                have HDM := hid_of hnew
                clear hnew
                have hdms : (dm.size : Int) = h' + 1 - rl := by have := pce_size (D := D) (r := ⟨rl, h'⟩) q1 (by dsimp only; omega) l2; rw [HDM.out]; exact this
                have HPM : Hid (rl + dm.size = h' + 1) := hid_of (by omega)
                have hdm30 : dm.size ≤ 30 := by omega
                go_upto_region 12 with (fail)
                try rw [hdm]
                clear hdms hdm
                generalize hW : World.setCell (World.setCell w7 _ _) _ _ = w5
                have X5 : Hid (Own2 w5 w.heap.size rl dm) := by rw [← hW]; exact hid_of ((X7.out.set1 _).set0 _)
                have Y5 : Hid (Own2 w5 qb rl qd) := by rw [← hW]; exact hid_of ((Y7.out.other (by dsimp only; omega) _).other (by dsimp only; omega) _)
                have hz5 : w5.heap.size = w7.heap.size := by rw [← hW]; simp [World.setCell]
                have hI5 : Hid (PcIn w5 (w.heap.size + 1) w5.heap.size A' m c' (pcs D OO)) := by rw [hz5, ← hW]; exact hid_of ((hI7.out.setLow (Nat.lt_succ_self _) _).setLow (Nat.lt_succ_self _) _)
                have hb5 : Below w.heap.size w w5 := by rw [← hW]; exact (hb8.setCell (Nat.le_refl _) _).setCell (Nat.le_refl _) _
                have hs5 : w.heap.size + 1 ≤ w5.heap.size := by omega
                clear hW x0 x1 xf y0 y1 yf X7 Y7 hI7 hb8 hz5

                obtain ⟨⟨x0, x1⟩, xf⟩ := X5.out
                obtain ⟨⟨y0, y1⟩, yf⟩ := Y5.out
                have u0 := fun y => Up.cell x0 y
                have u1 := fun y => Up.cell x1 y
                have v0 := fun y => Up.cell y0 y
                have v1 := fun y => Up.cell y1 y
                cases t4 : decide (h' + 1 < rh + 1) with
                | true =>
                  have p4 := of_decide_eq_true t4
                  go_wp2_with fail
                  refine wp_region_up (by kernel_rfl) (by kernel_rfl) ?_
                  repeat (quiet_step (first | (go_at_call 99; with_reducible exact up_of fun w' hb' => pend_v HPE.out w' (by omega) (by omega)) | (go_at_call 99; with_reducible exact up_of fun w' hb' => pend_v HPM.out w' (by omega) (by omega))))
                  refine wpQuiet_nil ?_
                  intro w6 hb6
                  have X6 := hid_of (X5.out.grow hb6)
                  have Y6 := hid_of (Y5.out.grow hb6)
                  have hI6 := hid_of (hI5.out.grow hb6)
                  have hb7 := hb5.trans (hb6.mono hb5.size)
                  have hs6 := hb6.size
                  clear u0 u1 v0 v1 x0 x1 xf y0 y1 yf X5 Y5 hI5 hb6
                  obtain ⟨⟨x0, x1⟩, xf⟩ := X6.out
                  obtain ⟨⟨y0, y1⟩, yf⟩ := Y6.out
                  go_wp2_with fail
                  have u0 := fun y => Up.cell x0 y
                  have u1 := fun y => Up.cell x1 y
                  have v0 := fun y => Up.cell y0 y
                  have v1 := fun y => Up.cell y1 y
                  obtain ⟨sm, hsm⟩ : ∃ x : Int, h' + 1 - rl = x := ⟨_, rfl⟩
                  have hw1 : IntKind.i64.wrap (h' + 1 - rl) = sm := by rw [hsm]; exact IntWalk.i64_in _ (by omega)
                  have b0 : 0 ≤ sm := by omega
                  have b1 : sm ≤ (qd.size : Int) := by have := HPE.out; omega
                  have HSM := hid_of hsm
                  clear hsm
                  have hcat : ¬ (9223372036854775807 < dm.size + (qd.extract sm.toNat qd.size).size) := by rw [ByteArray.size_extract]; omega
                  have hcat2 : ¬ (9223372036854775807 < dm.size + (qd.size - sm.toNat)) := by omega
                  have HNEW : Hid (dm ++ qd.extract sm.toNat qd.size = D.extract rl.toNat (rh + 1).toNat) := hid_of (by rw [HQD.out, HDM.out, ← HSM.out]; exact merge_back (r := ⟨rl, rh⟩) (show h' < rh by omega) p2 (by omega) q1 q3)
                  refine wp_region_up_tail 12 (by kernel_rfl) (by kernel_rfl) ?_
                  simp only [List.take_succ_cons, List.take_zero, List.drop_succ_cons, List.drop_zero]
                  repeat (quiet_step (first | (go_at_call 99; with_reducible exact up_of fun w' hb' => pend_v HPM.out w' (by omega) (by omega))))
                  refine wpQuiet_nil ?_
                  intro w8 hb8
                  have X8 := hid_of (X6.out.grow hb8)
                  have hI8 := hid_of (hI6.out.grow hb8)
                  have hb9 := hb7.trans (hb8.mono hb7.size)
                  have hs8 := hb8.size
                  clear u0 u1 v0 v1 x0 x1 xf y0 y1 yf X6 Y6 hI6 hb8 hw1 b0 b1 hcat hcat2
                  obtain ⟨⟨x0, x1⟩, xf⟩ := X8.out
                  go_wp2_with fail
                  go_roundw
                  case rel => exact ⟨k + 1, rl, rh, _, by go_num, by omega, ⟨by omega, by omega, by omega⟩, HNEW, hid_of (by have := HT.out; rw [show min l' rl = rl from by omega, show max h' rh = rh from by omega] at this; exact this), hid_of (fun j hj hjl => by have := HLO.out j (by omega) hjl; omega), hid_of (X8.out.set1 _), hid_of (show PcIn (w8.setCell _ _) _ _ _ _ _ _ by rw [show (w8.setCell ⟨w.heap.size, 1, none⟩ (.string (dm ++ qd.extract sm.toNat qd.size))).heap.size = w8.heap.size from by simp [World.setCell]]; exact hI8.out.setLow (Nat.lt_succ_self _) _), hb9.setCell (Nat.le_refl _) _, by simp [World.setCell]; omega⟩
                  case measure => simp [intOf]; omega
                | false =>
                  have p4 := of_decide_eq_false t4
                  go_wp2_with fail
                  refine wp_region_up (by kernel_rfl) (by kernel_rfl) ?_
                  repeat (quiet_step (first | (go_at_call 99; with_reducible exact up_of fun w' hb' => pend_v HPE.out w' (by omega) (by omega)) | (go_at_call 99; with_reducible exact up_of fun w' hb' => pend_v HPM.out w' (by omega) (by omega))))
                  refine wpQuiet_nil ?_
                  intro w6 hb6
                  have X6 := hid_of (X5.out.grow hb6)
                  have hI6 := hid_of (hI5.out.grow hb6)
                  have hb7 := hb5.trans (hb6.mono hb5.size)
                  have hs6 := hb6.size
                  clear u0 u1 v0 v1 x0 x1 xf y0 y1 yf X5 Y5 hI5 hb6
                  go_wp2_with fail
                  go_roundw
                  case rel => exact ⟨k + 1, rl, h', dm, by go_num, by omega, ⟨by omega, by omega, by omega⟩, HDM, hid_of (by have := HT.out; rw [show min l' rl = rl from by omega, show max h' rh = h' from by omega] at this; exact this), hid_of (fun j hj hjl => by have := HLO.out j (by omega) hjl; omega), X6, hI6, hb7, by omega⟩
                  case measure => simp [intOf]; omega
              | false =>
                have p3 := of_decide_eq_false t3
                go_upto_region 12 with (fail)
                have X5 := X4
                have Y5 := Y4
                have hI5 := hI4
                have hb5 := hb4
                have hs5 := hs4
                have HDM := HDP
                have HPM := HPP
                clear X4 Y4 hI4 hb4 x0 x1 xf y0 y1 yf

                obtain ⟨⟨x0, x1⟩, xf⟩ := X5.out
                obtain ⟨⟨y0, y1⟩, yf⟩ := Y5.out
                have u0 := fun y => Up.cell x0 y
                have u1 := fun y => Up.cell x1 y
                have v0 := fun y => Up.cell y0 y
                have v1 := fun y => Up.cell y1 y
                cases t4 : decide (h' + 1 < rh + 1) with
                | true =>
                  have p4 := of_decide_eq_true t4
                  go_wp2_with fail
                  refine wp_region_up (by kernel_rfl) (by kernel_rfl) ?_
                  repeat (quiet_step (first | (go_at_call 99; with_reducible exact up_of fun w' hb' => pend_v HPE.out w' (by omega) (by omega)) | (go_at_call 99; with_reducible exact up_of fun w' hb' => pend_v HPM.out w' (by omega) (by omega))))
                  refine wpQuiet_nil ?_
                  intro w6 hb6
                  have X6 := hid_of (X5.out.grow hb6)
                  have Y6 := hid_of (Y5.out.grow hb6)
                  have hI6 := hid_of (hI5.out.grow hb6)
                  have hb7 := hb5.trans (hb6.mono hb5.size)
                  have hs6 := hb6.size
                  clear u0 u1 v0 v1 x0 x1 xf y0 y1 yf X5 Y5 hI5 hb6
                  obtain ⟨⟨x0, x1⟩, xf⟩ := X6.out
                  obtain ⟨⟨y0, y1⟩, yf⟩ := Y6.out
                  go_wp2_with fail
                  have u0 := fun y => Up.cell x0 y
                  have u1 := fun y => Up.cell x1 y
                  have v0 := fun y => Up.cell y0 y
                  have v1 := fun y => Up.cell y1 y
                  obtain ⟨sm, hsm⟩ : ∃ x : Int, h' + 1 - rl = x := ⟨_, rfl⟩
                  have hw1 : IntKind.i64.wrap (h' + 1 - rl) = sm := by rw [hsm]; exact IntWalk.i64_in _ (by omega)
                  have b0 : 0 ≤ sm := by omega
                  have b1 : sm ≤ (qd.size : Int) := by have := HPE.out; omega
                  have HSM := hid_of hsm
                  clear hsm
                  have hcat : ¬ (9223372036854775807 < dp.size + (qd.extract sm.toNat qd.size).size) := by rw [ByteArray.size_extract]; omega
                  have hcat2 : ¬ (9223372036854775807 < dp.size + (qd.size - sm.toNat)) := by omega
                  have HNEW : Hid (dp ++ qd.extract sm.toNat qd.size = D.extract l'.toNat (rh + 1).toNat) := hid_of (by rw [HQD.out, HDM.out, ← HSM.out]; exact merge_back (r := ⟨rl, rh⟩) (show h' < rh by omega) p2 (by omega) q1 q3)
                  refine wp_region_up_tail 12 (by kernel_rfl) (by kernel_rfl) ?_
                  simp only [List.take_succ_cons, List.take_zero, List.drop_succ_cons, List.drop_zero]
                  repeat (quiet_step (first | (go_at_call 99; with_reducible exact up_of fun w' hb' => pend_v HPM.out w' (by omega) (by omega))))
                  refine wpQuiet_nil ?_
                  intro w8 hb8
                  have X8 := hid_of (X6.out.grow hb8)
                  have hI8 := hid_of (hI6.out.grow hb8)
                  have hb9 := hb7.trans (hb8.mono hb7.size)
                  have hs8 := hb8.size
                  clear u0 u1 v0 v1 x0 x1 xf y0 y1 yf X6 Y6 hI6 hb8 hw1 b0 b1 hcat hcat2
                  obtain ⟨⟨x0, x1⟩, xf⟩ := X8.out
                  go_wp2_with fail
                  go_roundw
                  case rel => exact ⟨k + 1, l', rh, _, by go_num, by omega, ⟨by omega, by omega, by omega⟩, HNEW, hid_of (by have := HT.out; rw [show min l' rl = l' from by omega, show max h' rh = rh from by omega] at this; exact this), hid_of (fun j hj hjl => by have := HLO.out j (by omega) hjl; omega), hid_of (X8.out.set1 _), hid_of (show PcIn (w8.setCell _ _) _ _ _ _ _ _ by rw [show (w8.setCell ⟨w.heap.size, 1, none⟩ (.string (dp ++ qd.extract sm.toNat qd.size))).heap.size = w8.heap.size from by simp [World.setCell]]; exact hI8.out.setLow (Nat.lt_succ_self _) _), hb9.setCell (Nat.le_refl _) _, by simp [World.setCell]; omega⟩
                  case measure => simp [intOf]; omega
                | false =>
                  have p4 := of_decide_eq_false t4
                  go_wp2_with fail
                  refine wp_region_up (by kernel_rfl) (by kernel_rfl) ?_
                  repeat (quiet_step (first | (go_at_call 99; with_reducible exact up_of fun w' hb' => pend_v HPE.out w' (by omega) (by omega)) | (go_at_call 99; with_reducible exact up_of fun w' hb' => pend_v HPM.out w' (by omega) (by omega))))
                  refine wpQuiet_nil ?_
                  intro w6 hb6
                  have X6 := hid_of (X5.out.grow hb6)
                  have hI6 := hid_of (hI5.out.grow hb6)
                  have hb7 := hb5.trans (hb6.mono hb5.size)
                  have hs6 := hb6.size
                  clear u0 u1 v0 v1 x0 x1 xf y0 y1 yf X5 Y5 hI5 hb6
                  go_wp2_with fail
                  go_roundw
                  case rel => exact ⟨k + 1, l', h', dp, by go_num, by omega, ⟨by omega, by omega, by omega⟩, HDM, hid_of (by have := HT.out; rw [show min l' rl = l' from by omega, show max h' rh = h' from by omega] at this; exact this), hid_of (fun j hj hjl => by have := HLO.out j (by omega) hjl; omega), X6, hI6, hb7, by omega⟩
                  case measure => simp [intOf]; omega
            | false =>
              have p2 := of_decide_eq_false t2
              have HT : Hid (T = OO ++ [⟨l', h'⟩] ++ L.drop k) := hid_of (by have := HT.out; rw [HST.out (.inr p2)] at this; rw [this]; simp)
              clear HMS HST HR
              go_wp2_with fail
              refine wp_region_up (by kernel_rfl) (by kernel_rfl) ?_
              repeat (quiet_step ((go_at_call 99; with_reducible exact up_of fun w' hb' => pend_v HPP.out w' (by omega) (by omega))))
              refine wpQuiet_nil ?_
              intro w2 hb2
              have X3 := hid_of (hX2.out.grow hb2)
              have hI3 := hid_of (hI.out.grow hb2)
              have hb3 := hbw.trans (hb2.mono hbw.size)
              have hs3 : w.heap.size + 1 ≤ w2.heap.size := by have := hb2.size; omega
              clear u0 u1 v0 v1 c0 c1 x0 x1 xf hI hb2 hbw hX2 hgl t2
              have hI := hI3
              have hbw := hb3
              clear hI3 hb3
              obtain ⟨⟨x0, x1⟩, xf⟩ := X3.out
              have hsr := hbw.size
              have hpx : pcs D [⟨l', h'⟩] = [⟨l', dp⟩] := by show [pce D ⟨l', h'⟩] = _; rw [show dp = D.extract l'.toNat (h' + 1).toNat from HDP.out]; rfl
              go_wp2_with (first
                | (at_builtin; refine wpList_snoc_pc _ rfl _ _ rfl ⟨l', dp⟩ rfl (hI.out.alloc _) (by simp; omega) (by omega) (by simp) rfl (by simp) (by simp) ?_; intro A2 c2 w2 hI2 ht2; have hs2 := ht2.size; (try simp at hs2); have hb2 : Below w.heap.size w w2 := below_touch hbw (alloc_touch ht2) (Nat.le_succ _) hsr; have HXX := hid_of (pc_drop (h.below hb2) (show k ≤ L.length from by omega)); clear ht2)
                | (at_builtin; go_loud (refine wpList_tail_pc _ rfl _ _ rfl rfl hI2 (by omega) (by omega) (by omega) rfl (HXX.out) (by intro e; first | (cases e; done) | (split at e <;> cases e)) (by omega) ?_; intro A3 c3 w3 hI3 ht3; have hb3 : Below w.heap.size w w3 := below_touch hb2 ht3 (Nat.le_succ _) (by omega); clear ht3)))
              go_ret
              have hl3 := hI3.1
              have hTT : pcs D OO ++ [⟨l', dp⟩] ++ pcs D (L.drop k) = pcs D T := by rw [HT.out, pcs_append, pcs_append, hpx]
              rw [pcs_drop, hTT] at hI3
              rw [pcs_drop, hTT, pcs_len] at hl3
              exact ⟨A3, c3, by rw [hl3]; rfl, by rw [hl3]; exact hI3.mono (Nat.le_succ _) (Nat.le_refl _), hb3⟩
          · have hkn : k = L.length := by omega
            have HT : Hid (T = OO ++ [⟨l', h'⟩] ++ L.drop k) := hid_of (by have := HT.out; rw [merge_stop (.inl (by omega))] at this; rw [this]; simp)
            have HD0 : Hid ((pcs D L).drop k = []) := hid_of (List.drop_of_length_le (by rw [pcs_len]; omega))
            have u0 := fun y => Up.cell x0 y
            have u1 := fun y => Up.cell x1 y
            go_wp2_with fail
            refine wp_region_up (by kernel_rfl) (by kernel_rfl) ?_
            repeat (quiet_step (fail))
            refine wpQuiet_nil ?_
            intro w2 hb2
            have X3 := hid_of (hX2.out.grow hb2)
            have hI3 := hid_of (hI.out.grow hb2)
            have hb3 := hbw.trans (hb2.mono hbw.size)
            have hs3 : w.heap.size + 1 ≤ w2.heap.size := by have := hb2.size; omega
            clear u0 u1 x0 x1 xf hI hb2 hbw hX2 hlt
            have hI := hI3
            have hbw := hb3
            clear hI3 hb3
            subst hkn
            obtain ⟨⟨x0, x1⟩, xf⟩ := X3.out
            by_cases hck : c = L.length
            · skip
              have hsr := hbw.size
              have hpx : pcs D [⟨l', h'⟩] = [⟨l', dp⟩] := by show [pce D ⟨l', h'⟩] = _; rw [show dp = D.extract l'.toNat (h' + 1).toNat from HDP.out]; rfl
              go_wp2_with (first
                | (at_builtin; refine wpList_snoc_pc _ rfl _ _ rfl ⟨l', dp⟩ rfl (hI.out.alloc _) (by simp; omega) (by omega) (by simp) rfl (by simp) (by simp) ?_; intro A2 c2 w2 hI2 ht2; have hs2 := ht2.size; (try simp at hs2); have hb2 : Below w.heap.size w w2 := below_touch hbw (alloc_touch ht2) (Nat.le_succ _) hsr; skip; clear ht2)
                | (at_builtin; go_loud (refine wpList_tail_pc _ rfl _ _ rfl rfl hI2 (by omega) (by omega) (by omega) rfl (show PcAt w2 _ 0 ((pcs D L).drop L.length) from by rw [HD0.out]; exact PcAt.nil _ _) (by intro e; first | (cases e; done) | (split at e <;> cases e)) (by omega) ?_; intro A3 c3 w3 hI3 ht3; have hb3 : Below w.heap.size w w3 := below_touch hb2 ht3 (Nat.le_succ _) (by omega); clear ht3)))
              go_ret
              have hl3 := hI3.1
              have hTT : pcs D OO ++ [⟨l', dp⟩] ++ pcs D (L.drop L.length) = pcs D T := by rw [HT.out, pcs_append, pcs_append, hpx]
              rw [pcs_drop, hTT] at hI3
              rw [pcs_drop, hTT, pcs_len] at hl3
              exact ⟨A3, c3, by rw [hl3]; rfl, by rw [hl3]; exact hI3.mono (Nat.le_succ _) (Nat.le_refl _), hb3⟩
            · skip
              have hsr := hbw.size
              have hpx : pcs D [⟨l', h'⟩] = [⟨l', dp⟩] := by show [pce D ⟨l', h'⟩] = _; rw [show dp = D.extract l'.toNat (h' + 1).toNat from HDP.out]; rfl
              go_wp2_with (first
                | (at_builtin; refine wpList_snoc_pc _ rfl _ _ rfl ⟨l', dp⟩ rfl (hI.out.alloc _) (by simp; omega) (by omega) (by simp) rfl (by simp) (by simp) ?_; intro A2 c2 w2 hI2 ht2; have hs2 := ht2.size; (try simp at hs2); have hb2 : Below w.heap.size w w2 := below_touch hbw (alloc_touch ht2) (Nat.le_succ _) hsr; skip; clear ht2)
                | (at_builtin; go_loud (refine wpList_tail_pc _ rfl _ _ rfl rfl hI2 (by omega) (by omega) (by omega) rfl (show PcAt w2 _ 0 ((pcs D L).drop L.length) from by rw [HD0.out]; exact PcAt.nil _ _) (by intro e; first | (cases e; done) | (split at e <;> cases e)) (by omega) ?_; intro A3 c3 w3 hI3 ht3; have hb3 : Below w.heap.size w w3 := below_touch hb2 ht3 (Nat.le_succ _) (by omega); clear ht3)))
              go_ret
              have hl3 := hI3.1
              have hTT : pcs D OO ++ [⟨l', dp⟩] ++ pcs D (L.drop L.length) = pcs D T := by rw [HT.out, pcs_append, pcs_append, hpx]
              rw [pcs_drop, hTT] at hI3
              rw [pcs_drop, hTT, pcs_len] at hl3
              exact ⟨A3, c3, by rw [hl3]; rfl, by rw [hl3]; exact hI3.mono (Nat.le_succ _) (Nat.le_refl _), hb3⟩
    · have hkn : k = L.length := by omega
      have HT2 : Hid (T = OO ++ addMerge (L.drop k) lo hi) := hid_of (by have := HT.out; rw [add_stop (.inl (by omega))] at this; exact this)
      have HLO : Hid (∀ j, k ≤ j → j < L.length → lo ≤ (rth L j).hi + 1) := hid_of (fun j hj hjl => absurd hjl (by omega))
      have u0 := fun y => Up.cell x0 y
      have u1 := fun y => Up.cell x1 y
      clear HT hkn
      go_wp2_with fail
      refine wp_region_up (by kernel_rfl) (by kernel_rfl) ?_
      repeat (quiet_step (fail))
      refine wpQuiet_nil ?_
      intro w2 hb2
      have X2 := hid_of ((hX.grow hb).grow hb2)
      have hI2 := hid_of (hI.out.grow hb2)
      have hbW := hbw.trans (hb2.mono hbw.size)
      have hsW : w.heap.size + 1 ≤ w2.heap.size := by have := hb.size; have := hb2.size; omega
      clear u0 u1 x0 x1 xf hI hb2 hb hbw hlt
      go_wp2_with fail
      have hm16 : m ≤ 16 := by omega
      clear hm
      go_loopw [6] (fun i wr => ∃ (k : Nat) (l' h' : Int) (dp : ByteArray), i = .int .i64 (k : Nat) ∧ k ≤ L.length ∧ (0 ≤ l' ∧ l' ≤ h' ∧ h' < D.size) ∧ Hid (dp = D.extract l'.toNat (h' + 1).toNat) ∧ Hid (T = OO ++ addMerge (L.drop k) l' h') ∧ Hid (∀ j, k ≤ j → j < L.length → l' ≤ (rth L j).hi + 1) ∧ Hid (Own2 wr w.heap.size l' dp) ∧ Hid (PcIn wr (w.heap.size + 1) wr.heap.size A' m c' (pcs D OO)) ∧ Below w.heap.size w wr ∧ w.heap.size + 1 ≤ wr.heap.size) (fun i _ => L.length - (intOf i).toNat)
      case atStart => exact ⟨k, lo, hi, dat, rfl, hk, ⟨h0, h1, h2⟩, HDAT, HT2, HLO, X2, hI2, hbW, hsW⟩
      case round =>
        clear HT2 HLO X2 hI2 hbW hsW hk
        obtain ⟨k, l', h', dp, rfl, hk, ⟨l0, l1, l2⟩, HDP, HT, HLO, hX2, hI, hbw, hsw⟩ := hrel
        rename World => wr
        have hds : (dp.size : Int) = h' + 1 - l' := by have := pce_size (D := D) (r := ⟨l', h'⟩) l0 l1 l2; rw [HDP.out]; exact this
        have HPP : Hid (l' + dp.size = h' + 1) := hid_of (by omega)
        have hd30 : dp.size ≤ 30 := by omega
        obtain ⟨⟨x0, x1⟩, xf⟩ := hX2.out
        clear hds
        by_cases hlt : k < L.length
        · skip
          obtain ⟨g', off', eg, hgl, hc⟩ := (h.below hbw).2 (by omega)
          cases eg
          obtain ⟨c0, c1⟩ := hc k hlt
          obtain ⟨q1, q2, q3⟩ := HX.out.at_ hlt
          have hsz := pce_size q1 q2 q3
          have hms := fun x => merge_step (L := L) (k := k) (lo := l') (hi := h') hlt x
          have hst := fun x => merge_stop (L := L) (k := k) (lo := l') (hi := h') x
          rw [pcs_th hlt] at c0 c1
          obtain ⟨⟨o, qd⟩, hp⟩ : ∃ p, pce D (rth L k) = p := ⟨_, rfl⟩
          have ho : (rth L k).lo = o := congrArg Pc.o hp
          have hqd : qd = D.extract (rth L k).lo.toNat ((rth L k).hi + 1).toNat := (congrArg Pc.d hp).symm
          have hmem : rth L k ∈ L := rth_mem hlt
          obtain ⟨⟨rl, rh⟩, hr⟩ : ∃ r, rth L k = r := ⟨_, rfl⟩
          rw [hp] at c0 c1 hsz
          rw [hr] at hsz q1 q2 q3 ho hqd hms hst
          dsimp only at c0 c1 hsz q1 q2 q3 ho hqd hms hst
          subst ho
          have HPE : Hid (rl + qd.size = rh + 1) := hid_of (by omega)
          have hqs : qd.size ≤ 30 := by omega
          have HQD := hid_of hqd
          have HR := hid_of hr
          clear hc hp hr hqd hmem hsz
          have v0 := fun y => Up.cell c0 y
          have v1 := fun y => Up.cell c1 y
          have u0 := fun y => Up.cell x0 y
          have u1 := fun y => Up.cell x1 y
          have HMS := hid_of hms
          have HST := hid_of hst
          clear hms hst
          cases t2 : decide (rl ≤ h' + 1) with
          | true =>
            have p2 := of_decide_eq_true t2
            have hlh := HLO.out k (Nat.le_refl _) hlt
            rw [HR.out] at hlh
            dsimp only at hlh
            have HT : Hid (T = OO ++ addMerge (L.drop (k + 1)) (min l' rl) (max h' rh)) := hid_of (by have := HT.out; rw [HMS.out p2] at this; exact this)
            clear HMS HST HR
            go_wp2_with fail
            refine wp_region_up (by kernel_rfl) (by kernel_rfl) ?_
            repeat (quiet_step ((go_at_call 99; with_reducible exact up_of fun w' hb' => pend_v HPP.out w' (by omega) (by omega))))
            refine wpQuiet_nil ?_
            intro w2 hb2
            have d0 := (hb2.cell (p := ⟨g, off + k * 2, none⟩) hgl).trans c0
            have d1 := (hb2.cell (p := ⟨g, off + k * 2 + 1, none⟩) hgl).trans c1
            have X3 := hid_of (hX2.out.grow hb2)
            have hI3 := hid_of (hI.out.grow hb2)
            have hb3 := hbw.trans (hb2.mono hbw.size)
            have hs3 : w.heap.size + 1 ≤ w2.heap.size := by have := hb2.size; omega
            clear u0 u1 v0 v1 c0 c1 x0 x1 xf hI hb2 hbw hX2 hgl t2
            go_upto_region 9 with (fail)
            generalize hW : World.alloc w2 _ = w4
            obtain ⟨qb, hqb⟩ : ∃ q, w2.heap.size = q := ⟨_, rfl⟩
            have hqp : w.heap.size < qb := by omega
            have Y4 : Hid (Own2 w4 qb rl qd) := by rw [← hW, ← hqb]; exact hid_of (Own2.newT _ _)
            have X4 : Hid (Own2 w4 w.heap.size l' dp) := by rw [← hW]; exact hid_of (X3.out.grow ((Below.refl _ _).alloc (Nat.le_refl _) _))
            have hI4 : Hid (PcIn w4 (w.heap.size + 1) w4.heap.size A' m c' (pcs D OO)) := by rw [← hW]; exact hid_of (hI3.out.grow ((Below.refl _ _).alloc (Nat.le_refl _) _))
            have hb4 : Below w.heap.size w w4 := by rw [← hW]; exact hb3.alloc (by omega) _
            have hs4 : w.heap.size + 1 ≤ w4.heap.size := by rw [← hW]; simp; omega
            have hqs4 : qb < w4.heap.size := by rw [← hW, ← hqb]; simp
            rw [hqb]
            clear hW hqb X3 hI3 hb3 hs3 d0 d1
            obtain ⟨⟨x0, x1⟩, xf⟩ := X4.out
            obtain ⟨⟨y0, y1⟩, yf⟩ := Y4.out
            cases t3 : decide (rl < l') with
            | true =>
              have p3 := of_decide_eq_true t3
              go_wp2_with fail
              have u0 := fun y => Up.cell x0 y
              have u1 := fun y => Up.cell x1 y
              have v0 := fun y => Up.cell y0 y
              have v1 := fun y => Up.cell y1 y
              obtain ⟨sn, hsn⟩ : ∃ x : Int, l' - rl = x := ⟨_, rfl⟩
              have hw1 : IntKind.i64.wrap (l' - rl) = sn := by rw [hsn]; exact IntWalk.i64_in _ (by omega)
              have b0 : 0 ≤ sn := by omega
              have b1 : sn ≤ (qd.size : Int) := by have := HPE.out; omega
              have hcat : ¬ (9223372036854775807 < (qd.extract 0 sn.toNat).size + dp.size) := by rw [ByteArray.size_extract]; omega
              have hcat2 : ¬ (9223372036854775807 < min sn.toNat qd.size + dp.size) := by omega
              have hcat3 : ¬ (9223372036854775807 < sn.toNat + dp.size) := by omega
              have hnew : qd.extract 0 sn.toNat ++ dp = D.extract rl.toNat (h' + 1).toNat := by rw [HQD.out, HDP.out, ← hsn]; exact merge_front (r := ⟨rl, rh⟩) q1 p3 hlh l1
              have HNW := hid_of hnew
              clear hsn hnew
              refine wp_region_up_tail 12 (by kernel_rfl) (by kernel_rfl) ?_
              simp only [List.take_succ_cons, List.take_zero, List.drop_succ_cons, List.drop_zero]
              repeat (quiet_step (fail))
              refine wpQuiet_nil ?_
              intro w7 hb7
              have X7 := hid_of (X4.out.grow hb7)
              have Y7 := hid_of (Y4.out.grow hb7)
              have hI7 := hid_of (hI4.out.grow hb7)
              have hb8 := hb4.trans (hb7.mono hb4.size)
              have hs7 := hb7.size
              clear u0 u1 v0 v1 x0 x1 xf y0 y1 yf X4 Y4 hI4 hb7 hw1 b0 b1 hcat hcat2 hcat3 hb4
              obtain ⟨⟨x0, x1⟩, xf⟩ := X7.out
              obtain ⟨⟨y0, y1⟩, yf⟩ := Y7.out
              obtain ⟨dm, hdm⟩ : ∃ x, qd.extract 0 sn.toNat ++ dp = x := ⟨_, rfl⟩
              have hnew := HNW.out
              rw [hdm] at hnew
              have HDM := hid_of hnew
              clear hnew
              have hdms : (dm.size : Int) = h' + 1 - rl := by have := pce_size (D := D) (r := ⟨rl, h'⟩) q1 (by dsimp only; omega) l2; rw [HDM.out]; exact this
              have HPM : Hid (rl + dm.size = h' + 1) := hid_of (by omega)
              have hdm30 : dm.size ≤ 30 := by omega
              go_upto_region 12 with (fail)
              try rw [hdm]
              clear hdms hdm
              generalize hW : World.setCell (World.setCell w7 _ _) _ _ = w5
              have X5 : Hid (Own2 w5 w.heap.size rl dm) := by rw [← hW]; exact hid_of ((X7.out.set1 _).set0 _)
              have Y5 : Hid (Own2 w5 qb rl qd) := by rw [← hW]; exact hid_of ((Y7.out.other (by dsimp only; omega) _).other (by dsimp only; omega) _)
              have hz5 : w5.heap.size = w7.heap.size := by rw [← hW]; simp [World.setCell]
              have hI5 : Hid (PcIn w5 (w.heap.size + 1) w5.heap.size A' m c' (pcs D OO)) := by rw [hz5, ← hW]; exact hid_of ((hI7.out.setLow (Nat.lt_succ_self _) _).setLow (Nat.lt_succ_self _) _)
              have hb5 : Below w.heap.size w w5 := by rw [← hW]; exact (hb8.setCell (Nat.le_refl _) _).setCell (Nat.le_refl _) _
              have hs5 : w.heap.size + 1 ≤ w5.heap.size := by omega
              clear hW x0 x1 xf y0 y1 yf X7 Y7 hI7 hb8 hz5

              obtain ⟨⟨x0, x1⟩, xf⟩ := X5.out
              obtain ⟨⟨y0, y1⟩, yf⟩ := Y5.out
              have u0 := fun y => Up.cell x0 y
              have u1 := fun y => Up.cell x1 y
              have v0 := fun y => Up.cell y0 y
              have v1 := fun y => Up.cell y1 y
              cases t4 : decide (h' + 1 < rh + 1) with
              | true =>
                have p4 := of_decide_eq_true t4
                go_wp2_with fail
                refine wp_region_up (by kernel_rfl) (by kernel_rfl) ?_
                repeat (quiet_step (first | (go_at_call 99; with_reducible exact up_of fun w' hb' => pend_v HPE.out w' (by omega) (by omega)) | (go_at_call 99; with_reducible exact up_of fun w' hb' => pend_v HPM.out w' (by omega) (by omega))))
                refine wpQuiet_nil ?_
                intro w6 hb6
                have X6 := hid_of (X5.out.grow hb6)
                have Y6 := hid_of (Y5.out.grow hb6)
                have hI6 := hid_of (hI5.out.grow hb6)
                have hb7 := hb5.trans (hb6.mono hb5.size)
                have hs6 := hb6.size
                clear u0 u1 v0 v1 x0 x1 xf y0 y1 yf X5 Y5 hI5 hb6
                obtain ⟨⟨x0, x1⟩, xf⟩ := X6.out
                obtain ⟨⟨y0, y1⟩, yf⟩ := Y6.out
                go_wp2_with fail
                have u0 := fun y => Up.cell x0 y
                have u1 := fun y => Up.cell x1 y
                have v0 := fun y => Up.cell y0 y
                have v1 := fun y => Up.cell y1 y
                obtain ⟨sm, hsm⟩ : ∃ x : Int, h' + 1 - rl = x := ⟨_, rfl⟩
                have hw1 : IntKind.i64.wrap (h' + 1 - rl) = sm := by rw [hsm]; exact IntWalk.i64_in _ (by omega)
                have b0 : 0 ≤ sm := by omega
                have b1 : sm ≤ (qd.size : Int) := by have := HPE.out; omega
                have HSM := hid_of hsm
                clear hsm
                have hcat : ¬ (9223372036854775807 < dm.size + (qd.extract sm.toNat qd.size).size) := by rw [ByteArray.size_extract]; omega
                have hcat2 : ¬ (9223372036854775807 < dm.size + (qd.size - sm.toNat)) := by omega
                have HNEW : Hid (dm ++ qd.extract sm.toNat qd.size = D.extract rl.toNat (rh + 1).toNat) := hid_of (by rw [HQD.out, HDM.out, ← HSM.out]; exact merge_back (r := ⟨rl, rh⟩) (show h' < rh by omega) p2 (by omega) q1 q3)
                refine wp_region_up_tail 12 (by kernel_rfl) (by kernel_rfl) ?_
                simp only [List.take_succ_cons, List.take_zero, List.drop_succ_cons, List.drop_zero]
                repeat (quiet_step (first | (go_at_call 99; with_reducible exact up_of fun w' hb' => pend_v HPM.out w' (by omega) (by omega))))
                refine wpQuiet_nil ?_
                intro w8 hb8
                have X8 := hid_of (X6.out.grow hb8)
                have hI8 := hid_of (hI6.out.grow hb8)
                have hb9 := hb7.trans (hb8.mono hb7.size)
                have hs8 := hb8.size
                clear u0 u1 v0 v1 x0 x1 xf y0 y1 yf X6 Y6 hI6 hb8 hw1 b0 b1 hcat hcat2
                obtain ⟨⟨x0, x1⟩, xf⟩ := X8.out
                go_wp2_with fail
                go_roundw
                case rel => exact ⟨k + 1, rl, rh, _, by go_num, by omega, ⟨by omega, by omega, by omega⟩, HNEW, hid_of (by have := HT.out; rw [show min l' rl = rl from by omega, show max h' rh = rh from by omega] at this; exact this), hid_of (fun j hj hjl => by have := HLO.out j (by omega) hjl; omega), hid_of (X8.out.set1 _), hid_of (show PcIn (w8.setCell _ _) _ _ _ _ _ _ by rw [show (w8.setCell ⟨w.heap.size, 1, none⟩ (.string (dm ++ qd.extract sm.toNat qd.size))).heap.size = w8.heap.size from by simp [World.setCell]]; exact hI8.out.setLow (Nat.lt_succ_self _) _), hb9.setCell (Nat.le_refl _) _, by simp [World.setCell]; omega⟩
                case measure => simp [intOf]; omega
              | false =>
                have p4 := of_decide_eq_false t4
                go_wp2_with fail
                refine wp_region_up (by kernel_rfl) (by kernel_rfl) ?_
                repeat (quiet_step (first | (go_at_call 99; with_reducible exact up_of fun w' hb' => pend_v HPE.out w' (by omega) (by omega)) | (go_at_call 99; with_reducible exact up_of fun w' hb' => pend_v HPM.out w' (by omega) (by omega))))
                refine wpQuiet_nil ?_
                intro w6 hb6
                have X6 := hid_of (X5.out.grow hb6)
                have hI6 := hid_of (hI5.out.grow hb6)
                have hb7 := hb5.trans (hb6.mono hb5.size)
                have hs6 := hb6.size
                clear u0 u1 v0 v1 x0 x1 xf y0 y1 yf X5 Y5 hI5 hb6
                go_wp2_with fail
                go_roundw
                case rel => exact ⟨k + 1, rl, h', dm, by go_num, by omega, ⟨by omega, by omega, by omega⟩, HDM, hid_of (by have := HT.out; rw [show min l' rl = rl from by omega, show max h' rh = h' from by omega] at this; exact this), hid_of (fun j hj hjl => by have := HLO.out j (by omega) hjl; omega), X6, hI6, hb7, by omega⟩
                case measure => simp [intOf]; omega
            | false =>
              have p3 := of_decide_eq_false t3
              go_upto_region 12 with (fail)
              have X5 := X4
              have Y5 := Y4
              have hI5 := hI4
              have hb5 := hb4
              have hs5 := hs4
              have HDM := HDP
              have HPM := HPP
              clear X4 Y4 hI4 hb4 x0 x1 xf y0 y1 yf

              obtain ⟨⟨x0, x1⟩, xf⟩ := X5.out
              obtain ⟨⟨y0, y1⟩, yf⟩ := Y5.out
              have u0 := fun y => Up.cell x0 y
              have u1 := fun y => Up.cell x1 y
              have v0 := fun y => Up.cell y0 y
              have v1 := fun y => Up.cell y1 y
              cases t4 : decide (h' + 1 < rh + 1) with
              | true =>
                have p4 := of_decide_eq_true t4
                go_wp2_with fail
                refine wp_region_up (by kernel_rfl) (by kernel_rfl) ?_
                repeat (quiet_step (first | (go_at_call 99; with_reducible exact up_of fun w' hb' => pend_v HPE.out w' (by omega) (by omega)) | (go_at_call 99; with_reducible exact up_of fun w' hb' => pend_v HPM.out w' (by omega) (by omega))))
                refine wpQuiet_nil ?_
                intro w6 hb6
                have X6 := hid_of (X5.out.grow hb6)
                have Y6 := hid_of (Y5.out.grow hb6)
                have hI6 := hid_of (hI5.out.grow hb6)
                have hb7 := hb5.trans (hb6.mono hb5.size)
                have hs6 := hb6.size
                clear u0 u1 v0 v1 x0 x1 xf y0 y1 yf X5 Y5 hI5 hb6
                obtain ⟨⟨x0, x1⟩, xf⟩ := X6.out
                obtain ⟨⟨y0, y1⟩, yf⟩ := Y6.out
                go_wp2_with fail
                have u0 := fun y => Up.cell x0 y
                have u1 := fun y => Up.cell x1 y
                have v0 := fun y => Up.cell y0 y
                have v1 := fun y => Up.cell y1 y
                obtain ⟨sm, hsm⟩ : ∃ x : Int, h' + 1 - rl = x := ⟨_, rfl⟩
                have hw1 : IntKind.i64.wrap (h' + 1 - rl) = sm := by rw [hsm]; exact IntWalk.i64_in _ (by omega)
                have b0 : 0 ≤ sm := by omega
                have b1 : sm ≤ (qd.size : Int) := by have := HPE.out; omega
                have HSM := hid_of hsm
                clear hsm
                have hcat : ¬ (9223372036854775807 < dp.size + (qd.extract sm.toNat qd.size).size) := by rw [ByteArray.size_extract]; omega
                have hcat2 : ¬ (9223372036854775807 < dp.size + (qd.size - sm.toNat)) := by omega
                have HNEW : Hid (dp ++ qd.extract sm.toNat qd.size = D.extract l'.toNat (rh + 1).toNat) := hid_of (by rw [HQD.out, HDM.out, ← HSM.out]; exact merge_back (r := ⟨rl, rh⟩) (show h' < rh by omega) p2 (by omega) q1 q3)
                refine wp_region_up_tail 12 (by kernel_rfl) (by kernel_rfl) ?_
                simp only [List.take_succ_cons, List.take_zero, List.drop_succ_cons, List.drop_zero]
                repeat (quiet_step (first | (go_at_call 99; with_reducible exact up_of fun w' hb' => pend_v HPM.out w' (by omega) (by omega))))
                refine wpQuiet_nil ?_
                intro w8 hb8
                have X8 := hid_of (X6.out.grow hb8)
                have hI8 := hid_of (hI6.out.grow hb8)
                have hb9 := hb7.trans (hb8.mono hb7.size)
                have hs8 := hb8.size
                clear u0 u1 v0 v1 x0 x1 xf y0 y1 yf X6 Y6 hI6 hb8 hw1 b0 b1 hcat hcat2
                obtain ⟨⟨x0, x1⟩, xf⟩ := X8.out
                go_wp2_with fail
                go_roundw
                case rel => exact ⟨k + 1, l', rh, _, by go_num, by omega, ⟨by omega, by omega, by omega⟩, HNEW, hid_of (by have := HT.out; rw [show min l' rl = l' from by omega, show max h' rh = rh from by omega] at this; exact this), hid_of (fun j hj hjl => by have := HLO.out j (by omega) hjl; omega), hid_of (X8.out.set1 _), hid_of (show PcIn (w8.setCell _ _) _ _ _ _ _ _ by rw [show (w8.setCell ⟨w.heap.size, 1, none⟩ (.string (dp ++ qd.extract sm.toNat qd.size))).heap.size = w8.heap.size from by simp [World.setCell]]; exact hI8.out.setLow (Nat.lt_succ_self _) _), hb9.setCell (Nat.le_refl _) _, by simp [World.setCell]; omega⟩
                case measure => simp [intOf]; omega
              | false =>
                have p4 := of_decide_eq_false t4
                go_wp2_with fail
                refine wp_region_up (by kernel_rfl) (by kernel_rfl) ?_
                repeat (quiet_step (first | (go_at_call 99; with_reducible exact up_of fun w' hb' => pend_v HPE.out w' (by omega) (by omega)) | (go_at_call 99; with_reducible exact up_of fun w' hb' => pend_v HPM.out w' (by omega) (by omega))))
                refine wpQuiet_nil ?_
                intro w6 hb6
                have X6 := hid_of (X5.out.grow hb6)
                have hI6 := hid_of (hI5.out.grow hb6)
                have hb7 := hb5.trans (hb6.mono hb5.size)
                have hs6 := hb6.size
                clear u0 u1 v0 v1 x0 x1 xf y0 y1 yf X5 Y5 hI5 hb6
                go_wp2_with fail
                go_roundw
                case rel => exact ⟨k + 1, l', h', dp, by go_num, by omega, ⟨by omega, by omega, by omega⟩, HDM, hid_of (by have := HT.out; rw [show min l' rl = l' from by omega, show max h' rh = h' from by omega] at this; exact this), hid_of (fun j hj hjl => by have := HLO.out j (by omega) hjl; omega), X6, hI6, hb7, by omega⟩
                case measure => simp [intOf]; omega
          | false =>
            have p2 := of_decide_eq_false t2
            have HT : Hid (T = OO ++ [⟨l', h'⟩] ++ L.drop k) := hid_of (by have := HT.out; rw [HST.out (.inr p2)] at this; rw [this]; simp)
            clear HMS HST HR
            go_wp2_with fail
            refine wp_region_up (by kernel_rfl) (by kernel_rfl) ?_
            repeat (quiet_step ((go_at_call 99; with_reducible exact up_of fun w' hb' => pend_v HPP.out w' (by omega) (by omega))))
            refine wpQuiet_nil ?_
            intro w2 hb2
            have X3 := hid_of (hX2.out.grow hb2)
            have hI3 := hid_of (hI.out.grow hb2)
            have hb3 := hbw.trans (hb2.mono hbw.size)
            have hs3 : w.heap.size + 1 ≤ w2.heap.size := by have := hb2.size; omega
            clear u0 u1 v0 v1 c0 c1 x0 x1 xf hI hb2 hbw hX2 hgl t2
            have hI := hI3
            have hbw := hb3
            clear hI3 hb3
            obtain ⟨⟨x0, x1⟩, xf⟩ := X3.out
            have hsr := hbw.size
            have hpx : pcs D [⟨l', h'⟩] = [⟨l', dp⟩] := by show [pce D ⟨l', h'⟩] = _; rw [show dp = D.extract l'.toNat (h' + 1).toNat from HDP.out]; rfl
            go_wp2_with (first
              | (at_builtin; refine wpList_snoc_pc _ rfl _ _ rfl ⟨l', dp⟩ rfl (hI.out.alloc _) (by simp; omega) (by omega) (by simp) rfl (by simp) (by simp) ?_; intro A2 c2 w2 hI2 ht2; have hs2 := ht2.size; (try simp at hs2); have hb2 : Below w.heap.size w w2 := below_touch hbw (alloc_touch ht2) (Nat.le_succ _) hsr; have HXX := hid_of (pc_drop (h.below hb2) (show k ≤ L.length from by omega)); clear ht2)
              | (at_builtin; go_loud (refine wpList_tail_pc _ rfl _ _ rfl rfl hI2 (by omega) (by omega) (by omega) rfl (HXX.out) (by intro e; first | (cases e; done) | (split at e <;> cases e)) (by omega) ?_; intro A3 c3 w3 hI3 ht3; have hb3 : Below w.heap.size w w3 := below_touch hb2 ht3 (Nat.le_succ _) (by omega); clear ht3)))
            go_ret
            have hl3 := hI3.1
            have hTT : pcs D OO ++ [⟨l', dp⟩] ++ pcs D (L.drop k) = pcs D T := by rw [HT.out, pcs_append, pcs_append, hpx]
            rw [pcs_drop, hTT] at hI3
            rw [pcs_drop, hTT, pcs_len] at hl3
            exact ⟨A3, c3, by rw [hl3]; rfl, by rw [hl3]; exact hI3.mono (Nat.le_succ _) (Nat.le_refl _), hb3⟩
        · have hkn : k = L.length := by omega
          have HT : Hid (T = OO ++ [⟨l', h'⟩] ++ L.drop k) := hid_of (by have := HT.out; rw [merge_stop (.inl (by omega))] at this; rw [this]; simp)
          have HD0 : Hid ((pcs D L).drop k = []) := hid_of (List.drop_of_length_le (by rw [pcs_len]; omega))
          have u0 := fun y => Up.cell x0 y
          have u1 := fun y => Up.cell x1 y
          go_wp2_with fail
          refine wp_region_up (by kernel_rfl) (by kernel_rfl) ?_
          repeat (quiet_step (fail))
          refine wpQuiet_nil ?_
          intro w2 hb2
          have X3 := hid_of (hX2.out.grow hb2)
          have hI3 := hid_of (hI.out.grow hb2)
          have hb3 := hbw.trans (hb2.mono hbw.size)
          have hs3 : w.heap.size + 1 ≤ w2.heap.size := by have := hb2.size; omega
          clear u0 u1 x0 x1 xf hI hb2 hbw hX2 hlt
          have hI := hI3
          have hbw := hb3
          clear hI3 hb3
          subst hkn
          obtain ⟨⟨x0, x1⟩, xf⟩ := X3.out
          by_cases hck : c = L.length
          · skip
            have hsr := hbw.size
            have hpx : pcs D [⟨l', h'⟩] = [⟨l', dp⟩] := by show [pce D ⟨l', h'⟩] = _; rw [show dp = D.extract l'.toNat (h' + 1).toNat from HDP.out]; rfl
            go_wp2_with (first
              | (at_builtin; refine wpList_snoc_pc _ rfl _ _ rfl ⟨l', dp⟩ rfl (hI.out.alloc _) (by simp; omega) (by omega) (by simp) rfl (by simp) (by simp) ?_; intro A2 c2 w2 hI2 ht2; have hs2 := ht2.size; (try simp at hs2); have hb2 : Below w.heap.size w w2 := below_touch hbw (alloc_touch ht2) (Nat.le_succ _) hsr; skip; clear ht2)
              | (at_builtin; go_loud (refine wpList_tail_pc _ rfl _ _ rfl rfl hI2 (by omega) (by omega) (by omega) rfl (show PcAt w2 _ 0 ((pcs D L).drop L.length) from by rw [HD0.out]; exact PcAt.nil _ _) (by intro e; first | (cases e; done) | (split at e <;> cases e)) (by omega) ?_; intro A3 c3 w3 hI3 ht3; have hb3 : Below w.heap.size w w3 := below_touch hb2 ht3 (Nat.le_succ _) (by omega); clear ht3)))
            go_ret
            have hl3 := hI3.1
            have hTT : pcs D OO ++ [⟨l', dp⟩] ++ pcs D (L.drop L.length) = pcs D T := by rw [HT.out, pcs_append, pcs_append, hpx]
            rw [pcs_drop, hTT] at hI3
            rw [pcs_drop, hTT, pcs_len] at hl3
            exact ⟨A3, c3, by rw [hl3]; rfl, by rw [hl3]; exact hI3.mono (Nat.le_succ _) (Nat.le_refl _), hb3⟩
          · skip
            have hsr := hbw.size
            have hpx : pcs D [⟨l', h'⟩] = [⟨l', dp⟩] := by show [pce D ⟨l', h'⟩] = _; rw [show dp = D.extract l'.toNat (h' + 1).toNat from HDP.out]; rfl
            go_wp2_with (first
              | (at_builtin; refine wpList_snoc_pc _ rfl _ _ rfl ⟨l', dp⟩ rfl (hI.out.alloc _) (by simp; omega) (by omega) (by simp) rfl (by simp) (by simp) ?_; intro A2 c2 w2 hI2 ht2; have hs2 := ht2.size; (try simp at hs2); have hb2 : Below w.heap.size w w2 := below_touch hbw (alloc_touch ht2) (Nat.le_succ _) hsr; skip; clear ht2)
              | (at_builtin; go_loud (refine wpList_tail_pc _ rfl _ _ rfl rfl hI2 (by omega) (by omega) (by omega) rfl (show PcAt w2 _ 0 ((pcs D L).drop L.length) from by rw [HD0.out]; exact PcAt.nil _ _) (by intro e; first | (cases e; done) | (split at e <;> cases e)) (by omega) ?_; intro A3 c3 w3 hI3 ht3; have hb3 : Below w.heap.size w w3 := below_touch hb2 ht3 (Nat.le_succ _) (by omega); clear ht3)))
            go_ret
            have hl3 := hI3.1
            have hTT : pcs D OO ++ [⟨l', dp⟩] ++ pcs D (L.drop L.length) = pcs D T := by rw [HT.out, pcs_append, pcs_append, hpx]
            rw [pcs_drop, hTT] at hI3
            rw [pcs_drop, hTT, pcs_len] at hl3
            exact ⟨A3, c3, by rw [hl3]; rfl, by rw [hl3]; exact hI3.mono (Nat.le_succ _) (Nat.le_refl _), hb3⟩

set_option maxRecDepth 100000 in
set_option maxHeartbeats 4000000 in
theorem mp_nil {D : ByteArray} {lo hi : Int} {dat : ByteArray} (hdat : dat = D.extract lo.toNat (hi + 1).toNat) (w : World)  :
    Calls Try.prog 79 #[.slice none 0 0, .agg #[.int .i64 lo, .string dat]] w (GotPcs w D [⟨lo, hi⟩]) := by
  have hX := Own2.newT (o := lo) (d := dat) w 92
  have hb0 : Below w.heap.size w (w.alloc (.cells #[.int .i64 lo, .string dat] 92)) := (Below.refl _ w).alloc (Nat.le_refl _) _
  have hs0 : (w.alloc (.cells #[.int .i64 lo, .string dat] 92)).heap.size = w.heap.size + 1 := by simp
  have hpx : pcs D [⟨lo, hi⟩] = [⟨lo, dat⟩] := by show [pce D ⟨lo, hi⟩] = _; rw [hdat]; rfl
  have HPX := hid_of hpx
  clear hdat hpx
  go_enter Try.func79, Try.ntmps79
  go_wp2_with fail
  generalize hW : World.alloc w _ = W1 at hX hb0 hs0 ⊢
  clear hW
  go_loopw [5, 6] (fun s i wr => i = .int .i64 0 ∧ s = .slice none 0 0 ∧ Below W1.heap.size W1 wr) (fun _ i _ => 0)
  case atStart => exact ⟨rfl, rfl, Below.refl _ _⟩
  case round =>
    obtain ⟨rfl, rfl, hb⟩ := hrel
    rename World => wr
    obtain ⟨⟨x0, x1⟩, xf⟩ := hX.grow hb
    have u0 := fun y => Up.cell x0 y
    have u1 := fun y => Up.cell x1 y
    go_wp2_with fail
    refine wp_region_up (by kernel_rfl) (by kernel_rfl) ?_
    repeat (quiet_step (fail))
    refine wpQuiet_nil ?_
    intro w2 hb2
    have hb2 := hb.trans (hb2.mono hb.size)
    clear u0 u1 x0 x1 xf hb
    go_wp2_with fail
    go_loopw [6] (fun i wr => i = .int .i64 0 ∧ Below W1.heap.size W1 wr) (fun i _ => 0)
    case atStart => exact ⟨rfl, hb2⟩
    case round =>
      clear hb2
      obtain ⟨rfl, hb⟩ := hrel
      rename World => wr
      obtain ⟨⟨x0, x1⟩, xf⟩ := hX.grow hb
      have u0 := fun y => Up.cell x0 y
      have u1 := fun y => Up.cell x1 y
      go_wp2_with fail
      refine wp_region_up (by kernel_rfl) (by kernel_rfl) ?_
      repeat (quiet_step (fail))
      refine wpQuiet_nil ?_
      intro w3 hb3
      have hb3 := hb.trans (hb3.mono hb.size)
      clear u0 u1 x0 x1 xf hb
      obtain ⟨⟨x0, x1⟩, xf⟩ := hX.grow hb3
      have hbw := hb0.trans (hb3.mono hb0.size)
      have hsr := hbw.size
      have hs3 := hb3.size
      go_wp2_with (first
        | (at_builtin; refine wpList_snoc_pc _ rfl _ _ rfl ⟨lo, dat⟩ rfl ((PcIn.empty _ (w.heap.size + 1) 0 none)) (by simp; omega) (by omega) (by simp) rfl (by simp) (by simp) ?_; intro A2 c2 w2 hI2 ht2; have hs2 := ht2.size; (try simp at hs2); have hb2 : Below w.heap.size w w2 := below_touch hbw (alloc_touch ht2) (Nat.le_succ _) hsr; clear ht2)
        | (at_builtin; go_loud (refine wpList_tail_pc _ rfl _ _ rfl rfl hI2 (by omega) (by omega) (by omega) rfl (PcAt.nil _ _) (by intro e; first | (cases e; done) | rfl | (split at e <;> cases e)) (by omega) ?_; intro A3 c3 w3 hI3 ht3; have hb3 : Below w.heap.size w w3 := below_touch hb2 ht3 (Nat.le_succ _) (by omega); clear ht3)))
      go_ret
      exact ⟨A3, c3, rfl, by rw [HPX.out]; exact hI3.mono (Nat.le_succ _) (Nat.le_refl _), hb3⟩

set_option maxRecDepth 100000 in
set_option maxHeartbeats 4000000 in
theorem mp_zero {D : ByteArray} {lo hi : Int} {dat : ByteArray} (hdat : dat = D.extract lo.toNat (hi + 1).toNat) (w : World) (x : Addr) (c : Nat) :
    Calls Try.prog 79 #[.slice (some x) 0 c, .agg #[.int .i64 lo, .string dat]] w (GotPcs w D [⟨lo, hi⟩]) := by
  have hX := Own2.newT (o := lo) (d := dat) w 92
  have hb0 : Below w.heap.size w (w.alloc (.cells #[.int .i64 lo, .string dat] 92)) := (Below.refl _ w).alloc (Nat.le_refl _) _
  have hs0 : (w.alloc (.cells #[.int .i64 lo, .string dat] 92)).heap.size = w.heap.size + 1 := by simp
  have hpx : pcs D [⟨lo, hi⟩] = [⟨lo, dat⟩] := by show [pce D ⟨lo, hi⟩] = _; rw [hdat]; rfl
  have HPX := hid_of hpx
  clear hdat hpx
  go_enter Try.func79, Try.ntmps79
  go_wp2_with fail
  generalize hW : World.alloc w _ = W1 at hX hb0 hs0 ⊢
  clear hW
  go_loopw [5, 6] (fun s i wr => i = .int .i64 0 ∧ s = .slice none 0 0 ∧ Below W1.heap.size W1 wr) (fun _ i _ => 0)
  case atStart => exact ⟨rfl, rfl, Below.refl _ _⟩
  case round =>
    obtain ⟨rfl, rfl, hb⟩ := hrel
    rename World => wr
    obtain ⟨⟨x0, x1⟩, xf⟩ := hX.grow hb
    have u0 := fun y => Up.cell x0 y
    have u1 := fun y => Up.cell x1 y
    go_wp2_with fail
    refine wp_region_up (by kernel_rfl) (by kernel_rfl) ?_
    repeat (quiet_step (fail))
    refine wpQuiet_nil ?_
    intro w2 hb2
    have hb2 := hb.trans (hb2.mono hb.size)
    clear u0 u1 x0 x1 xf hb
    go_wp2_with fail
    go_loopw [6] (fun i wr => i = .int .i64 0 ∧ Below W1.heap.size W1 wr) (fun i _ => 0)
    case atStart => exact ⟨rfl, hb2⟩
    case round =>
      clear hb2
      obtain ⟨rfl, hb⟩ := hrel
      rename World => wr
      obtain ⟨⟨x0, x1⟩, xf⟩ := hX.grow hb
      have u0 := fun y => Up.cell x0 y
      have u1 := fun y => Up.cell x1 y
      go_wp2_with fail
      refine wp_region_up (by kernel_rfl) (by kernel_rfl) ?_
      repeat (quiet_step (fail))
      refine wpQuiet_nil ?_
      intro w3 hb3
      have hb3 := hb.trans (hb3.mono hb.size)
      clear u0 u1 x0 x1 xf hb
      obtain ⟨⟨x0, x1⟩, xf⟩ := hX.grow hb3
      have hbw := hb0.trans (hb3.mono hb0.size)
      have hsr := hbw.size
      have hs3 := hb3.size
      go_wp2_with (first
        | (at_builtin; refine wpList_snoc_pc _ rfl _ _ rfl ⟨lo, dat⟩ rfl ((PcIn.empty _ (w.heap.size + 1) 0 none)) (by simp; omega) (by omega) (by simp) rfl (by simp) (by simp) ?_; intro A2 c2 w2 hI2 ht2; have hs2 := ht2.size; (try simp at hs2); have hb2 : Below w.heap.size w w2 := below_touch hbw (alloc_touch ht2) (Nat.le_succ _) hsr; clear ht2)
        | (at_builtin; go_loud (refine wpList_tail_pc _ rfl _ _ rfl rfl hI2 (by omega) (by omega) (by omega) rfl (PcAt.nil _ _) (by intro e; first | (cases e; done) | rfl | (split at e <;> cases e)) (by omega) ?_; intro A3 c3 w3 hI3 ht3; have hb3 : Below w.heap.size w w3 := below_touch hb2 ht3 (Nat.le_succ _) (by omega); clear ht3)))
      go_ret
      exact ⟨A3, c3, rfl, by rw [HPX.out]; exact hI3.mono (Nat.le_succ _) (Nat.le_refl _), hb3⟩

theorem mp_any {D : ByteArray} {L : List Rg} {lo hi : Int} {dat : ByteArray} (hx : Rx D L) (h0 : 0 ≤ lo) (h1 : lo ≤ hi) (h2 : hi < D.size) (hdat : dat = D.extract lo.toNat (hi + 1).toNat) (w : World) {A : Option Addr} {c : Nat} (h : PcAt w A L.length (pcs D L)) (hnone : A = none → c = 0) (hcap : L.length ≤ c) :
    Calls Try.prog 79 #[.slice A L.length c, .agg #[.int .i64 lo, .string dat]] w (GotPcs w D (add L lo hi)) := by
  rcases Nat.eq_zero_or_pos L.length with e | e
  · obtain rfl : L = [] := List.eq_nil_of_length_eq_zero e
    rcases A with _ | x
    · obtain rfl := hnone rfl
      exact mp_nil hdat w
    · exact mp_zero hdat w x c
  · obtain ⟨g, off, rfl, _, _⟩ := h.2 e
    exact mp_some hx h0 h1 h2 hdat w h hcap


end Go.Proofs.Ytmkmaeblnnfheaa
