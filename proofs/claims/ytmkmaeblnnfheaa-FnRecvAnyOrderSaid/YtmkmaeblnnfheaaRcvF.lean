/- A new receiving side; data of one text is received. -/
import Derived.Test.YtmkmaeblnnfheaaRcvE
import Derived.Test.YtmkmaeblnnfheaaMg4
import Derived.Deep.Cut
namespace Go.Proofs.Ytmkmaeblnnfheaa
open Go.RowKit
attribute [local irreducible] Go.wpQuiet

set_option maxRecDepth 100000 in
set_option maxHeartbeats 400000 in
theorem rnew_i (w : World) :
    Calls Try.prog 41 #[.int .i64 30] w fun e w' => e = .returned (.tuple #[.agg #[.int .i64 0, .slice none 0 0, .int .i64 (-1), .int .i64 30], .bool true]) ∧ Below w.heap.size w w' := by
  have hc : decide (0 ≤ (30 : Int) ∧ (30 : Int) ≤ 30) = true := by decide
  go_enter Try.func41, Try.ntmps41
  go_wp2_with (go_at_call 55; (with_reducible refine (within_v hc _).mono ?_); rintro e w9 ⟨rfl, rfl⟩)
  try simp only [Exit.inBlock, Exit.then]
  refine bodyPost_ret (results_rv rfl rfl rfl (Own4.newT _ _)) rfl ?_
  exact ⟨rfl, by go_grown⟩

/-- What was received: the pieces, the final size. -/
def GotRv (w : World) (D : ByteArray) (L : List Rg) (F : Int) (e : Ending) (w' : World) : Prop :=
  ∃ A c, e = .returned (.tuple #[.agg #[.int .i64 0, .slice A L.length c, .int .i64 F, .int .i64 30], .int .i64 0]) ∧ PcIn w' w.heap.size w'.heap.size A L.length c (pcs D L) ∧ Below w.heap.size w w'
theorem PcIn.touch_all {w w' : World} {Lo B S B' : Nat} {A : Option Addr} {n c : Nat} {L : List Pc} (h : PcIn w Lo w.heap.size A n c L) (t : Touch w w' B S) (h1 : S ≤ Lo) (h2 : B' ≤ Lo) : PcIn w' B' w'.heap.size A n c L := (h.touch t (.inr h1)).mono h2 t.size
theorem touch4 (w : World) (b : Nat) (v0 v1 v2 v3 : Value) :
    Touch w ((((w.setCell ⟨b, 0, none⟩ v0).setCell ⟨b, 1, none⟩ v1).setCell ⟨b, 2, none⟩ v2).setCell ⟨b, 3, none⟩ v3) b (b + 1) := by
  repeat refine Touch.setCell ?_ (by dsimp only; omega) (by dsimp only; omega) _
  exact Touch.refl w b (b + 1)

set_option linter.unusedVariables false in
set_option maxRecDepth 100000 in
set_option maxHeartbeats 4000000 in
theorem put_omp {D dat : ByteArray} {L : List Rg} {lo e F : Int} {A : Option Addr} {c : Nat} (hx : Rx D L) (h0 : 0 ≤ lo) (h1 : lo < e) (h2 : e ≤ D.size) (h12 : e ≤ lo + 12) (hdat : dat = D.extract lo.toNat (e).toNat) {M : List Rg} (hM : add L lo (e - 1) = M) (w : World) (h : PcAt w A L.length (pcs D L)) (hnone : A = none → c = 0) :
    Calls Try.prog 42 #[.agg #[.int .i64 0, .slice A L.length c, .int .i64 (-1), .int .i64 30], .int .i64 lo, .string dat, .bool false] w (GotRv w D M (-1)) := by
  have hlen := hx.len
  have hfew := hx.few
  have hend := endOf_le hx
  have HX := hid_of hx
  have hds : (dat.size : Int) = e - lo := by rw [hdat, ByteArray.size_extract]; omega
  have HB : Hid (∀ (i : Nat) (h : i < dat.size), bAt D (lo + (i : Int)) = ((dat[i]'h).toNat : Int)) := by
    unfold Hid
    subst hdat
    intro i h
    rw [bAt_ext h, show ((lo.toNat + i : Nat) : Int) = lo + i from by omega]
  obtain ⟨q, hq⟩ : ∃ q, endOf 0 L = q := ⟨_, rfl⟩
  rw [hq] at hend
  have HQ := hid_of hq
  obtain ⟨s, hs'⟩ : ∃ s, dat.size = s := ⟨_, rfl⟩
  have HV1 : Hid (decide (0 ≤ lo ∧ lo ≤ 30) = true) := hid_of (decide_eq_true (by omega))
  have hd1000 : dat.size ≤ 1000 := by omega
  have hwe : IntKind.i64.wrap (lo + (dat.size : Int)) = e := by rw [show lo + (dat.size : Int) = e from by omega]; exact IntWalk.i64_in _ (by omega)
  have c12 : decide (12 < (dat.size : Int)) = false := decide_eq_false (by omega)
  have c30 : decide (30 < e) = false := decide_eq_false (by omega)
  have c30' : ¬ (30 < e) := by omega
  have cq : decide (e < q) = decide (e < q) := rfl
  have HVF : Hid ((-1) = -1 ∨ (endOf 0 L ≤ (-1) ∧ (-1) ≤ 30)) := hid_of (.inl rfl)
  have HRL : Hid (∀ r, r ∈ L → (0 : Int) ≤ r.lo) := hid_of fun r hr => (hx.b r hr).1
  have cl : decide (0 < (dat.size : Int)) = true := decide_eq_true (by omega)
  have cl2 : (0 : Int) < (dat.size : Int) := by omega
  have cl3 : 0 < dat.size := by omega
  have hwn : IntKind.i64.wrap (-lo) = -lo := IntWalk.i64_in _ (by omega)
  have hwn' : IntKind.i64.wrap (0 - lo) = -lo := by rw [show 0 - lo = -lo from by omega]; exact hwn
  have cn : decide (0 < -lo) = false := decide_eq_false (by omega)
  have cn' : ¬ (lo < 0) := by omega
  have HDAT := hid_of hdat
  have HDS := hid_of hds
  have hBX : Hid (Own4 ((w.alloc (.cells #[.int .i64 0, .slice A L.length c, .int .i64 (-1), .int .i64 30] 58)).alloc (.cells #[.int .i64 0, .slice none 0 0, .int .i64 0, .int .i64 0] 58)) w.heap.size 0 A L.length c (-1) 30) := hid_of ((Own4.newT _ _).alloc _)
  have hY : Hid (Own4 ((w.alloc (.cells #[.int .i64 0, .slice A L.length c, .int .i64 (-1), .int .i64 30] 58)).alloc (.cells #[.int .i64 0, .slice none 0 0, .int .i64 0, .int .i64 0] 58)) (w.heap.size + 1) 0 none 0 0 0 0) := hid_of (by have := Own4.newT (R := 0) (A := none) (n := 0) (c := 0) (F := 0) (l := 0) (w.alloc (.cells #[.int .i64 0, .slice A L.length c, .int .i64 (-1), .int .i64 30] 58)) 58; simpa using this)
  have hA := (h.alloc (.cells #[.int .i64 0, .slice A L.length c, .int .i64 (-1), .int .i64 30] 58)).alloc (.cells #[.int .i64 0, .slice none 0 0, .int .i64 0, .int .i64 0] 58)
  have hb0 : Below w.heap.size w ((w.alloc (.cells #[.int .i64 0, .slice A L.length c, .int .i64 (-1), .int .i64 30] 58)).alloc (.cells #[.int .i64 0, .slice none 0 0, .int .i64 0, .int .i64 0] 58)) := ((Below.refl _ w).alloc (Nat.le_refl _) _).alloc (by simp) _
  have hs0 : w.heap.size + 2 ≤ ((w.alloc (.cells #[.int .i64 0, .slice A L.length c, .int .i64 (-1), .int .i64 30] 58)).alloc (.cells #[.int .i64 0, .slice none 0 0, .int .i64 0, .int .i64 0] 58)).heap.size := by simp
  clear hx hq hdat hds hs' hend h
  go_enter Try.func42, Try.ntmps42
  go_wp2_with fail
  generalize hW : World.alloc (World.alloc w _) _ = W0 at *
  clear hW
  with_reducible refine (rvalid_v HX.out ⟨by omega, by omega⟩ HRL.out (.inl rfl) W0 hA).mono ?_
  rintro e' w1 ⟨rfl, hb⟩
  have BX := hid_of (hBX.out.grow hb)
  have Y := hid_of (hY.out.grow hb)
  have A1 := hid_of (hA.below hb)
  have hbw := hb0.trans (hb.mono hb0.size)
  have hs : w.heap.size + 2 ≤ w1.heap.size := by have := hb.size; omega
  clear hBX hY hA hb0 hs0 hb
  obtain ⟨⟨z0, z1, z2, z3⟩, zf⟩ := BX.out
  go_wp2_with (go_at_call 55; (with_reducible refine (within_v HV1.out _).mono ?_); rintro e w9 ⟨rfl, rfl⟩)
  with_reducible refine (copy_r w1 A1.out hnone (by omega)).mono ?_
  rintro e' w2 ⟨A', c', rfl, hI, hb⟩
  have hs1 := hb.size
  have BX := hid_of (BX.out.grow hb)
  have Y := hid_of (Y.out.grow hb)
  have I := hid_of hI
  have hn' : A' = none → c' = 0 := fun e => by
    rcases hI.2.2 with ⟨_, e2⟩ | ⟨_, g, e2, _⟩
    · exact e2
    · rw [e] at e2; cases e2
  have HN := hid_of hn'
  have hc' : L.length ≤ c' := hI.cap.1
  have A2 := hid_of (A1.out.below hb)
  have hbw := hbw.trans (hb.mono hbw.size)
  clear hI hb A1 z0 z1 z2 z3 zf hn'
  go_upto_region 4 with (fail)
  generalize hW : World.alloc w2 _ = w3
  obtain ⟨ob, hob⟩ : ∃ b, w2.heap.size = b := ⟨_, rfl⟩
  have hb : Below w2.heap.size w2 w3 := by rw [← hW]; exact (Below.refl _ _).alloc (Nat.le_refl _) _
  have X : Hid (Own4 w3 ob 0 A' L.length c' (-1) 30) := by rw [← hW, ← hob]; exact hid_of (Own4.newT _ _)
  have BX := hid_of (BX.out.grow hb)
  have Y := hid_of (Y.out.grow hb)
  have I := hid_of (I.out.below hb)
  have A3 := hid_of (A2.out.below hb)
  have hbw := hbw.trans (hb.mono hbw.size)
  have ho : ob < w3.heap.size := by rw [← hW, ← hob]; simp
  have hs : w.heap.size + 2 ≤ w3.heap.size := by have := hb.size; omega
  have hob1 : w1.heap.size ≤ ob := by omega
  have hob2 : w.heap.size + 2 ≤ w1.heap.size := by omega
  rw [hob] at I ⊢
  clear hW A2 hb hob hs1
  obtain ⟨⟨z0, z1, z2, z3⟩, zf⟩ := BX.out
  obtain ⟨⟨x0, x1, x2, x3⟩, xf⟩ := X.out
  have A4 := A3
  go_wp2_with (first
    | (go_at_call 77; (with_reducible refine (rend_v HQ.out HX.out _ A4.out).mono ?_); rintro e' wn ⟨rfl, hb⟩; have A4 := hid_of (A4.out.below hb); have BX := hid_of (BX.out.grow hb); have Y := hid_of (Y.out.grow hb); have X := hid_of (X.out.grow hb); have I := hid_of (I.out.below hb); have hbw := hbw.trans (hb.mono hbw.size); have hs := (show w.heap.size + 2 ≤ _ from Nat.le_trans hs hb.size); have ho := Nat.lt_of_lt_of_le ho hb.size; clear z0 z1 z2 z3 zf x0 x1 x2 x3 xf hb; obtain ⟨⟨z0, z1, z2, z3⟩, zf⟩ := BX.out; obtain ⟨⟨x0, x1, x2, x3⟩, xf⟩ := X.out)
    | (go_at_call 78; (with_reducible refine (conf_v HB.out HX.out (by omega) hd1000 _ A4.out).mono ?_); rintro e' wn ⟨rfl, hb⟩; have A4 := hid_of (A4.out.below hb); have BX := hid_of (BX.out.grow hb); have Y := hid_of (Y.out.grow hb); have X := hid_of (X.out.grow hb); have I := hid_of (I.out.below hb); have hbw := hbw.trans (hb.mono hbw.size); have hs := (show w.heap.size + 2 ≤ _ from Nat.le_trans hs hb.size); have ho := Nat.lt_of_lt_of_le ho hb.size; clear z0 z1 z2 z3 zf x0 x1 x2 x3 xf hb; obtain ⟨⟨z0, z1, z2, z3⟩, zf⟩ := BX.out; obtain ⟨⟨x0, x1, x2, x3⟩, xf⟩ := X.out))
  rename World => w5
  have X5 := X
  have Y5 := Y
  have I5 := I
  have hb5 := hbw
  have hs5 := (show w.heap.size + 2 ≤ w5.heap.size ∧ ob < w5.heap.size from ⟨hs, ho⟩)
  clear X Y I hbw hs ho
  clear BX A3 A4 z0 z1 z2 z3 zf x0 x1 x2 x3 xf
  obtain ⟨hs5, ho5⟩ := hs5
  obtain ⟨⟨x0, x1, x2, x3⟩, xf⟩ := X5.out
  have u1 := fun y => Up.cell x1 y
  have hwl : IntKind.i64.wrap (lo + 0) = lo := by rw [Int.add_zero]; exact IntWalk.i64_in _ (by omega)
  have hwl' : IntKind.i64.wrap lo = lo := IntWalk.i64_in _ (by omega)
  have hdd : dat.extract 0 dat.size = dat := ByteArray.extract_zero_size
  have z00 : (0 : Int) ≤ (dat.size : Int) := by omega
  refine wp_region_up_tail 9 (by kernel_rfl) (by kernel_rfl) ?_
  simp only [List.take_succ_cons, List.take_zero, List.drop_succ_cons, List.drop_zero]
  repeat (quiet_step (fail))
  refine wpQuiet_nil ?_
  intro w6 hb
  have X6 := hid_of (X5.out.grow hb)
  have Y6 := hid_of (Y5.out.grow hb)
  have I6 := hid_of (I5.out.below hb)
  have hb6 := hb5.trans (hb.mono hb5.size)
  have hs6 := hb.size
  clear u1 x0 x1 x2 x3 xf X5 Y5 I5 hb5 hb
  obtain ⟨⟨x0, x1, x2, x3⟩, xf⟩ := X6.out
  have HDT : Hid (dat = D.extract lo.toNat ((e - 1) + 1).toNat) := hid_of (by rw [show (e - 1) + 1 = e from by omega]; exact HDAT.out)
  go_wp2_with (go_at_call 79; (with_reducible refine (mp_any HX.out h0 (by omega) (by omega) HDT.out w6 I6.out.reads HN.out hc').mono ?_); rintro e' w7 ⟨A7, c7, rfl, hI7, hb7⟩; have X7 := hid_of (X6.out.grow hb7); have Y7 := hid_of (Y6.out.grow hb7); have I7 := hid_of hI7; have hb8 := hb6.trans (hb7.mono hb6.size); have hs7 := hb7.size; clear x0 x1 x2 x3 xf hI7 hb7; obtain ⟨⟨x0, x1, x2, x3⟩, xf⟩ := X7.out; obtain ⟨⟨y0, y1, y2, y3⟩, yf⟩ := Y7.out)
  try simp only [Exit.inBlock, Exit.then]
  refine bodyPost_ret (results_rv rfl rfl rfl ((Y7.out.other (by dsimp only; omega) _).setAll _ _ _ _ _ _)) rfl ?_
  refine ⟨A7, c7, by rw [← hM]; rfl, ?_, ?_⟩
  · rw [← hM]
    refine PcIn.touch_all (Lo := w6.heap.size) (B := w.heap.size + 1) (S := ob + 1) I7.out ?_ (by omega) (by omega)
    repeat refine Touch.setCell ?_ (by dsimp only; omega) (by dsimp only; omega) _
    exact Touch.refl w7 (w.heap.size + 1) (ob + 1)
  · repeat refine Below.setCell ?_ (by dsimp only; omega) _
    exact hb8

set_option linter.unusedVariables false in
set_option maxRecDepth 100000 in
set_option maxHeartbeats 4000000 in
theorem put_ome {D dat : ByteArray} {L : List Rg} {lo e F : Int} {A : Option Addr} {c : Nat} (hx : Rx D L) (h0 : 0 ≤ lo) (h1 : lo ≤ e) (h1b : e ≤ lo) (h2 : e ≤ D.size) (h12 : e ≤ lo + 12) (hdat : dat = D.extract lo.toNat (e).toNat) (w : World) (h : PcAt w A L.length (pcs D L)) (hnone : A = none → c = 0) :
    Calls Try.prog 42 #[.agg #[.int .i64 0, .slice A L.length c, .int .i64 (-1), .int .i64 30], .int .i64 lo, .string dat, .bool false] w (GotRv w D L (-1)) := by
  have hlen := hx.len
  have hfew := hx.few
  have hend := endOf_le hx
  have HX := hid_of hx
  have hds : (dat.size : Int) = e - lo := by rw [hdat, ByteArray.size_extract]; omega
  have HB : Hid (∀ (i : Nat) (h : i < dat.size), bAt D (lo + (i : Int)) = ((dat[i]'h).toNat : Int)) := by
    unfold Hid
    subst hdat
    intro i h
    rw [bAt_ext h, show ((lo.toNat + i : Nat) : Int) = lo + i from by omega]
  obtain ⟨q, hq⟩ : ∃ q, endOf 0 L = q := ⟨_, rfl⟩
  rw [hq] at hend
  have HQ := hid_of hq
  obtain ⟨s, hs'⟩ : ∃ s, dat.size = s := ⟨_, rfl⟩
  have HV1 : Hid (decide (0 ≤ lo ∧ lo ≤ 30) = true) := hid_of (decide_eq_true (by omega))
  have hd1000 : dat.size ≤ 1000 := by omega
  have hwe : IntKind.i64.wrap (lo + (dat.size : Int)) = e := by rw [show lo + (dat.size : Int) = e from by omega]; exact IntWalk.i64_in _ (by omega)
  have c12 : decide (12 < (dat.size : Int)) = false := decide_eq_false (by omega)
  have c30 : decide (30 < e) = false := decide_eq_false (by omega)
  have c30' : ¬ (30 < e) := by omega
  have cq : decide (e < q) = decide (e < q) := rfl
  have HVF : Hid ((-1) = -1 ∨ (endOf 0 L ≤ (-1) ∧ (-1) ≤ 30)) := hid_of (.inl rfl)
  have HRL : Hid (∀ r, r ∈ L → (0 : Int) ≤ r.lo) := hid_of fun r hr => (hx.b r hr).1
  have cl : decide (0 < (dat.size : Int)) = false := decide_eq_false (by omega)
  have cl3 : ¬ (0 < dat.size) := by omega
  have hwn : IntKind.i64.wrap (-lo) = -lo := IntWalk.i64_in _ (by omega)
  have hwn' : IntKind.i64.wrap (0 - lo) = -lo := by rw [show 0 - lo = -lo from by omega]; exact hwn
  have cn : decide (0 < -lo) = false := decide_eq_false (by omega)
  have cn' : ¬ (lo < 0) := by omega
  have HDAT := hid_of hdat
  have HDS := hid_of hds
  have hBX : Hid (Own4 ((w.alloc (.cells #[.int .i64 0, .slice A L.length c, .int .i64 (-1), .int .i64 30] 58)).alloc (.cells #[.int .i64 0, .slice none 0 0, .int .i64 0, .int .i64 0] 58)) w.heap.size 0 A L.length c (-1) 30) := hid_of ((Own4.newT _ _).alloc _)
  have hY : Hid (Own4 ((w.alloc (.cells #[.int .i64 0, .slice A L.length c, .int .i64 (-1), .int .i64 30] 58)).alloc (.cells #[.int .i64 0, .slice none 0 0, .int .i64 0, .int .i64 0] 58)) (w.heap.size + 1) 0 none 0 0 0 0) := hid_of (by have := Own4.newT (R := 0) (A := none) (n := 0) (c := 0) (F := 0) (l := 0) (w.alloc (.cells #[.int .i64 0, .slice A L.length c, .int .i64 (-1), .int .i64 30] 58)) 58; simpa using this)
  have hA := (h.alloc (.cells #[.int .i64 0, .slice A L.length c, .int .i64 (-1), .int .i64 30] 58)).alloc (.cells #[.int .i64 0, .slice none 0 0, .int .i64 0, .int .i64 0] 58)
  have hb0 : Below w.heap.size w ((w.alloc (.cells #[.int .i64 0, .slice A L.length c, .int .i64 (-1), .int .i64 30] 58)).alloc (.cells #[.int .i64 0, .slice none 0 0, .int .i64 0, .int .i64 0] 58)) := ((Below.refl _ w).alloc (Nat.le_refl _) _).alloc (by simp) _
  have hs0 : w.heap.size + 2 ≤ ((w.alloc (.cells #[.int .i64 0, .slice A L.length c, .int .i64 (-1), .int .i64 30] 58)).alloc (.cells #[.int .i64 0, .slice none 0 0, .int .i64 0, .int .i64 0] 58)).heap.size := by simp
  clear hx hq hdat hds hs' hend h
  go_enter Try.func42, Try.ntmps42
  go_wp2_with fail
  generalize hW : World.alloc (World.alloc w _) _ = W0 at *
  clear hW
  with_reducible refine (rvalid_v HX.out ⟨by omega, by omega⟩ HRL.out (.inl rfl) W0 hA).mono ?_
  rintro e' w1 ⟨rfl, hb⟩
  have BX := hid_of (hBX.out.grow hb)
  have Y := hid_of (hY.out.grow hb)
  have A1 := hid_of (hA.below hb)
  have hbw := hb0.trans (hb.mono hb0.size)
  have hs : w.heap.size + 2 ≤ w1.heap.size := by have := hb.size; omega
  clear hBX hY hA hb0 hs0 hb
  obtain ⟨⟨z0, z1, z2, z3⟩, zf⟩ := BX.out
  go_wp2_with (go_at_call 55; (with_reducible refine (within_v HV1.out _).mono ?_); rintro e w9 ⟨rfl, rfl⟩)
  with_reducible refine (copy_r w1 A1.out hnone (by omega)).mono ?_
  rintro e' w2 ⟨A', c', rfl, hI, hb⟩
  have hs1 := hb.size
  have BX := hid_of (BX.out.grow hb)
  have Y := hid_of (Y.out.grow hb)
  have I := hid_of hI
  have hn' : A' = none → c' = 0 := fun e => by
    rcases hI.2.2 with ⟨_, e2⟩ | ⟨_, g, e2, _⟩
    · exact e2
    · rw [e] at e2; cases e2
  have HN := hid_of hn'
  have hc' : L.length ≤ c' := hI.cap.1
  have A2 := hid_of (A1.out.below hb)
  have hbw := hbw.trans (hb.mono hbw.size)
  clear hI hb A1 z0 z1 z2 z3 zf hn'
  go_upto_region 4 with (fail)
  generalize hW : World.alloc w2 _ = w3
  obtain ⟨ob, hob⟩ : ∃ b, w2.heap.size = b := ⟨_, rfl⟩
  have hb : Below w2.heap.size w2 w3 := by rw [← hW]; exact (Below.refl _ _).alloc (Nat.le_refl _) _
  have X : Hid (Own4 w3 ob 0 A' L.length c' (-1) 30) := by rw [← hW, ← hob]; exact hid_of (Own4.newT _ _)
  have BX := hid_of (BX.out.grow hb)
  have Y := hid_of (Y.out.grow hb)
  have I := hid_of (I.out.below hb)
  have A3 := hid_of (A2.out.below hb)
  have hbw := hbw.trans (hb.mono hbw.size)
  have ho : ob < w3.heap.size := by rw [← hW, ← hob]; simp
  have hs : w.heap.size + 2 ≤ w3.heap.size := by have := hb.size; omega
  have hob1 : w1.heap.size ≤ ob := by omega
  have hob2 : w.heap.size + 2 ≤ w1.heap.size := by omega
  rw [hob] at I ⊢
  clear hW A2 hb hob hs1
  obtain ⟨⟨z0, z1, z2, z3⟩, zf⟩ := BX.out
  obtain ⟨⟨x0, x1, x2, x3⟩, xf⟩ := X.out
  have A4 := A3
  go_upto_region 17 with (first
    | (go_at_call 77; (with_reducible refine (rend_v HQ.out HX.out _ A4.out).mono ?_); rintro e' wn ⟨rfl, hb⟩; have A4 := hid_of (A4.out.below hb); have BX := hid_of (BX.out.grow hb); have Y := hid_of (Y.out.grow hb); have X := hid_of (X.out.grow hb); have I := hid_of (I.out.below hb); have hbw := hbw.trans (hb.mono hbw.size); have hs := (show w.heap.size + 2 ≤ _ from Nat.le_trans hs hb.size); have ho := Nat.lt_of_lt_of_le ho hb.size; clear z0 z1 z2 z3 zf x0 x1 x2 x3 xf hb; obtain ⟨⟨z0, z1, z2, z3⟩, zf⟩ := BX.out; obtain ⟨⟨x0, x1, x2, x3⟩, xf⟩ := X.out)
    | (go_at_call 78; (with_reducible refine (conf_v HB.out HX.out (by omega) hd1000 _ A4.out).mono ?_); rintro e' wn ⟨rfl, hb⟩; have A4 := hid_of (A4.out.below hb); have BX := hid_of (BX.out.grow hb); have Y := hid_of (Y.out.grow hb); have X := hid_of (X.out.grow hb); have I := hid_of (I.out.below hb); have hbw := hbw.trans (hb.mono hbw.size); have hs := (show w.heap.size + 2 ≤ _ from Nat.le_trans hs hb.size); have ho := Nat.lt_of_lt_of_le ho hb.size; clear z0 z1 z2 z3 zf x0 x1 x2 x3 xf hb; obtain ⟨⟨z0, z1, z2, z3⟩, zf⟩ := BX.out; obtain ⟨⟨x0, x1, x2, x3⟩, xf⟩ := X.out))
  rename World => w5
  have X5 := X
  have Y5 := Y
  have I5 := I
  have hb5 := hbw
  have hs5 := (show w.heap.size + 2 ≤ w5.heap.size ∧ ob < w5.heap.size from ⟨hs, ho⟩)
  clear X Y I hbw hs ho
  clear BX A3 A4 z0 z1 z2 z3 zf x0 x1 x2 x3 xf
  obtain ⟨hs5, ho5⟩ := hs5
  obtain ⟨⟨x0, x1, x2, x3⟩, xf⟩ := X5.out
  obtain ⟨⟨y0, y1, y2, y3⟩, yf⟩ := Y5.out
  go_wp2_with fail
  try simp only [Exit.inBlock, Exit.then]
  refine bodyPost_ret (results_rv rfl rfl rfl (Y5.out.setAll _ _ _ _ _ _)) rfl ?_
  refine ⟨A', c', rfl, ?_, ?_⟩
  · have t := touch4 w5 (w.heap.size + 1) (.int .i64 0) (.slice A' L.length c') (.int .i64 (-1)) (.int .i64 30)
    exact (I5.out.touch t (.inr (by omega))).mono (by omega) (Nat.le_trans (Nat.le_of_lt ho5) t.size)
  · repeat refine Below.setCell ?_ (by dsimp only; omega) _
    exact hb5

set_option linter.unusedVariables false in
set_option maxRecDepth 100000 in
set_option maxHeartbeats 4000000 in
theorem put_osp {D dat : ByteArray} {L : List Rg} {lo e F : Int} {A : Option Addr} {c : Nat} (hx : Rx D L) (hF0 : F ≤ (D.size : Int)) (hF1 : (D.size : Int) ≤ F) (h0 : 0 ≤ lo) (h1 : lo < e) (h2 : e ≤ D.size) (h12 : e ≤ lo + 12) (hdat : dat = D.extract lo.toNat (e).toNat) {M : List Rg} (hM : add L lo (e - 1) = M) (w : World) (h : PcAt w A L.length (pcs D L)) (hnone : A = none → c = 0) :
    Calls Try.prog 42 #[.agg #[.int .i64 0, .slice A L.length c, .int .i64 F, .int .i64 30], .int .i64 lo, .string dat, .bool false] w (GotRv w D M F) := by
  have hlen := hx.len
  have hfew := hx.few
  have hend := endOf_le hx
  have HX := hid_of hx
  have hds : (dat.size : Int) = e - lo := by rw [hdat, ByteArray.size_extract]; omega
  have HB : Hid (∀ (i : Nat) (h : i < dat.size), bAt D (lo + (i : Int)) = ((dat[i]'h).toNat : Int)) := by
    unfold Hid
    subst hdat
    intro i h
    rw [bAt_ext h, show ((lo.toNat + i : Nat) : Int) = lo + i from by omega]
  obtain ⟨q, hq⟩ : ∃ q, endOf 0 L = q := ⟨_, rfl⟩
  rw [hq] at hend
  have HQ := hid_of hq
  obtain ⟨s, hs'⟩ : ∃ s, dat.size = s := ⟨_, rfl⟩
  have HV1 : Hid (decide (0 ≤ lo ∧ lo ≤ 30) = true) := hid_of (decide_eq_true (by omega))
  have hd1000 : dat.size ≤ 1000 := by omega
  have hwe : IntKind.i64.wrap (lo + (dat.size : Int)) = e := by rw [show lo + (dat.size : Int) = e from by omega]; exact IntWalk.i64_in _ (by omega)
  have c12 : decide (12 < (dat.size : Int)) = false := decide_eq_false (by omega)
  have c30 : decide (30 < e) = false := decide_eq_false (by omega)
  have c30' : ¬ (30 < e) := by omega
  have cq : decide (e < q) = decide (e < q) := rfl
  have HVF : Hid (F = -1 ∨ (endOf 0 L ≤ F ∧ F ≤ 30)) := hid_of (.inr ⟨by omega, by omega⟩)
  have HRL : Hid (∀ r, r ∈ L → (0 : Int) ≤ r.lo) := hid_of fun r hr => (hx.b r hr).1
  have f1 : (F == -1) = false := by rw [beq_eq_false_iff_ne]; omega
  have f3 : decide (F < e) = false := decide_eq_false (by omega)
  have cl : decide (0 < (dat.size : Int)) = true := decide_eq_true (by omega)
  have cl2 : (0 : Int) < (dat.size : Int) := by omega
  have cl3 : 0 < dat.size := by omega
  have hwn : IntKind.i64.wrap (-lo) = -lo := IntWalk.i64_in _ (by omega)
  have hwn' : IntKind.i64.wrap (0 - lo) = -lo := by rw [show 0 - lo = -lo from by omega]; exact hwn
  have cn : decide (0 < -lo) = false := decide_eq_false (by omega)
  have cn' : ¬ (lo < 0) := by omega
  have HDAT := hid_of hdat
  have HDS := hid_of hds
  have hBX : Hid (Own4 ((w.alloc (.cells #[.int .i64 0, .slice A L.length c, .int .i64 F, .int .i64 30] 58)).alloc (.cells #[.int .i64 0, .slice none 0 0, .int .i64 0, .int .i64 0] 58)) w.heap.size 0 A L.length c F 30) := hid_of ((Own4.newT _ _).alloc _)
  have hY : Hid (Own4 ((w.alloc (.cells #[.int .i64 0, .slice A L.length c, .int .i64 F, .int .i64 30] 58)).alloc (.cells #[.int .i64 0, .slice none 0 0, .int .i64 0, .int .i64 0] 58)) (w.heap.size + 1) 0 none 0 0 0 0) := hid_of (by have := Own4.newT (R := 0) (A := none) (n := 0) (c := 0) (F := 0) (l := 0) (w.alloc (.cells #[.int .i64 0, .slice A L.length c, .int .i64 F, .int .i64 30] 58)) 58; simpa using this)
  have hA := (h.alloc (.cells #[.int .i64 0, .slice A L.length c, .int .i64 F, .int .i64 30] 58)).alloc (.cells #[.int .i64 0, .slice none 0 0, .int .i64 0, .int .i64 0] 58)
  have hb0 : Below w.heap.size w ((w.alloc (.cells #[.int .i64 0, .slice A L.length c, .int .i64 F, .int .i64 30] 58)).alloc (.cells #[.int .i64 0, .slice none 0 0, .int .i64 0, .int .i64 0] 58)) := ((Below.refl _ w).alloc (Nat.le_refl _) _).alloc (by simp) _
  have hs0 : w.heap.size + 2 ≤ ((w.alloc (.cells #[.int .i64 0, .slice A L.length c, .int .i64 F, .int .i64 30] 58)).alloc (.cells #[.int .i64 0, .slice none 0 0, .int .i64 0, .int .i64 0] 58)).heap.size := by simp
  clear hx hq hdat hds hs' hend h
  go_enter Try.func42, Try.ntmps42
  go_wp2_with fail
  generalize hW : World.alloc (World.alloc w _) _ = W0 at *
  clear hW
  with_reducible refine (rvalid_v HX.out ⟨by omega, by omega⟩ HRL.out (HVF.out) W0 hA).mono ?_
  rintro e' w1 ⟨rfl, hb⟩
  have BX := hid_of (hBX.out.grow hb)
  have Y := hid_of (hY.out.grow hb)
  have A1 := hid_of (hA.below hb)
  have hbw := hb0.trans (hb.mono hb0.size)
  have hs : w.heap.size + 2 ≤ w1.heap.size := by have := hb.size; omega
  clear hBX hY hA hb0 hs0 hb
  obtain ⟨⟨z0, z1, z2, z3⟩, zf⟩ := BX.out
  go_wp2_with (go_at_call 55; (with_reducible refine (within_v HV1.out _).mono ?_); rintro e w9 ⟨rfl, rfl⟩)
  with_reducible refine (copy_r w1 A1.out hnone (by omega)).mono ?_
  rintro e' w2 ⟨A', c', rfl, hI, hb⟩
  have hs1 := hb.size
  have BX := hid_of (BX.out.grow hb)
  have Y := hid_of (Y.out.grow hb)
  have I := hid_of hI
  have hn' : A' = none → c' = 0 := fun e => by
    rcases hI.2.2 with ⟨_, e2⟩ | ⟨_, g, e2, _⟩
    · exact e2
    · rw [e] at e2; cases e2
  have HN := hid_of hn'
  have hc' : L.length ≤ c' := hI.cap.1
  have A2 := hid_of (A1.out.below hb)
  have hbw := hbw.trans (hb.mono hbw.size)
  clear hI hb A1 z0 z1 z2 z3 zf hn'
  go_upto_region 4 with (fail)
  generalize hW : World.alloc w2 _ = w3
  obtain ⟨ob, hob⟩ : ∃ b, w2.heap.size = b := ⟨_, rfl⟩
  have hb : Below w2.heap.size w2 w3 := by rw [← hW]; exact (Below.refl _ _).alloc (Nat.le_refl _) _
  have X : Hid (Own4 w3 ob 0 A' L.length c' F 30) := by rw [← hW, ← hob]; exact hid_of (Own4.newT _ _)
  have BX := hid_of (BX.out.grow hb)
  have Y := hid_of (Y.out.grow hb)
  have I := hid_of (I.out.below hb)
  have A3 := hid_of (A2.out.below hb)
  have hbw := hbw.trans (hb.mono hbw.size)
  have ho : ob < w3.heap.size := by rw [← hW, ← hob]; simp
  have hs : w.heap.size + 2 ≤ w3.heap.size := by have := hb.size; omega
  have hob1 : w1.heap.size ≤ ob := by omega
  have hob2 : w.heap.size + 2 ≤ w1.heap.size := by omega
  rw [hob] at I ⊢
  clear hW A2 hb hob hs1
  obtain ⟨⟨z0, z1, z2, z3⟩, zf⟩ := BX.out
  obtain ⟨⟨x0, x1, x2, x3⟩, xf⟩ := X.out
  have A4 := A3
  go_wp2_with (first
    | (go_at_call 77; (with_reducible refine (rend_v HQ.out HX.out _ A4.out).mono ?_); rintro e' wn ⟨rfl, hb⟩; have A4 := hid_of (A4.out.below hb); have BX := hid_of (BX.out.grow hb); have Y := hid_of (Y.out.grow hb); have X := hid_of (X.out.grow hb); have I := hid_of (I.out.below hb); have hbw := hbw.trans (hb.mono hbw.size); have hs := (show w.heap.size + 2 ≤ _ from Nat.le_trans hs hb.size); have ho := Nat.lt_of_lt_of_le ho hb.size; clear z0 z1 z2 z3 zf x0 x1 x2 x3 xf hb; obtain ⟨⟨z0, z1, z2, z3⟩, zf⟩ := BX.out; obtain ⟨⟨x0, x1, x2, x3⟩, xf⟩ := X.out)
    | (go_at_call 78; (with_reducible refine (conf_v HB.out HX.out (by omega) hd1000 _ A4.out).mono ?_); rintro e' wn ⟨rfl, hb⟩; have A4 := hid_of (A4.out.below hb); have BX := hid_of (BX.out.grow hb); have Y := hid_of (Y.out.grow hb); have X := hid_of (X.out.grow hb); have I := hid_of (I.out.below hb); have hbw := hbw.trans (hb.mono hbw.size); have hs := (show w.heap.size + 2 ≤ _ from Nat.le_trans hs hb.size); have ho := Nat.lt_of_lt_of_le ho hb.size; clear z0 z1 z2 z3 zf x0 x1 x2 x3 xf hb; obtain ⟨⟨z0, z1, z2, z3⟩, zf⟩ := BX.out; obtain ⟨⟨x0, x1, x2, x3⟩, xf⟩ := X.out))
  rename World => w5
  have X5 := X
  have Y5 := Y
  have I5 := I
  have hb5 := hbw
  have hs5 := (show w.heap.size + 2 ≤ w5.heap.size ∧ ob < w5.heap.size from ⟨hs, ho⟩)
  clear X Y I hbw hs ho
  clear BX A3 A4 z0 z1 z2 z3 zf x0 x1 x2 x3 xf
  obtain ⟨hs5, ho5⟩ := hs5
  obtain ⟨⟨x0, x1, x2, x3⟩, xf⟩ := X5.out
  have u1 := fun y => Up.cell x1 y
  have hwl : IntKind.i64.wrap (lo + 0) = lo := by rw [Int.add_zero]; exact IntWalk.i64_in _ (by omega)
  have hwl' : IntKind.i64.wrap lo = lo := IntWalk.i64_in _ (by omega)
  have hdd : dat.extract 0 dat.size = dat := ByteArray.extract_zero_size
  have z00 : (0 : Int) ≤ (dat.size : Int) := by omega
  refine wp_region_up_tail 9 (by kernel_rfl) (by kernel_rfl) ?_
  simp only [List.take_succ_cons, List.take_zero, List.drop_succ_cons, List.drop_zero]
  repeat (quiet_step (fail))
  refine wpQuiet_nil ?_
  intro w6 hb
  have X6 := hid_of (X5.out.grow hb)
  have Y6 := hid_of (Y5.out.grow hb)
  have I6 := hid_of (I5.out.below hb)
  have hb6 := hb5.trans (hb.mono hb5.size)
  have hs6 := hb.size
  clear u1 x0 x1 x2 x3 xf X5 Y5 I5 hb5 hb
  obtain ⟨⟨x0, x1, x2, x3⟩, xf⟩ := X6.out
  have HDT : Hid (dat = D.extract lo.toNat ((e - 1) + 1).toNat) := hid_of (by rw [show (e - 1) + 1 = e from by omega]; exact HDAT.out)
  go_wp2_with (go_at_call 79; (with_reducible refine (mp_any HX.out h0 (by omega) (by omega) HDT.out w6 I6.out.reads HN.out hc').mono ?_); rintro e' w7 ⟨A7, c7, rfl, hI7, hb7⟩; have X7 := hid_of (X6.out.grow hb7); have Y7 := hid_of (Y6.out.grow hb7); have I7 := hid_of hI7; have hb8 := hb6.trans (hb7.mono hb6.size); have hs7 := hb7.size; clear x0 x1 x2 x3 xf hI7 hb7; obtain ⟨⟨x0, x1, x2, x3⟩, xf⟩ := X7.out; obtain ⟨⟨y0, y1, y2, y3⟩, yf⟩ := Y7.out)
  try simp only [Exit.inBlock, Exit.then]
  refine bodyPost_ret (results_rv rfl rfl rfl ((Y7.out.other (by dsimp only; omega) _).setAll _ _ _ _ _ _)) rfl ?_
  refine ⟨A7, c7, by rw [← hM]; rfl, ?_, ?_⟩
  · rw [← hM]
    refine PcIn.touch_all (Lo := w6.heap.size) (B := w.heap.size + 1) (S := ob + 1) I7.out ?_ (by omega) (by omega)
    repeat refine Touch.setCell ?_ (by dsimp only; omega) (by dsimp only; omega) _
    exact Touch.refl w7 (w.heap.size + 1) (ob + 1)
  · repeat refine Below.setCell ?_ (by dsimp only; omega) _
    exact hb8

set_option linter.unusedVariables false in
set_option maxRecDepth 100000 in
set_option maxHeartbeats 4000000 in
theorem put_ose {D dat : ByteArray} {L : List Rg} {lo e F : Int} {A : Option Addr} {c : Nat} (hx : Rx D L) (hF0 : F ≤ (D.size : Int)) (hF1 : (D.size : Int) ≤ F) (h0 : 0 ≤ lo) (h1 : lo ≤ e) (h1b : e ≤ lo) (h2 : e ≤ D.size) (h12 : e ≤ lo + 12) (hdat : dat = D.extract lo.toNat (e).toNat) (w : World) (h : PcAt w A L.length (pcs D L)) (hnone : A = none → c = 0) :
    Calls Try.prog 42 #[.agg #[.int .i64 0, .slice A L.length c, .int .i64 F, .int .i64 30], .int .i64 lo, .string dat, .bool false] w (GotRv w D L F) := by
  have hlen := hx.len
  have hfew := hx.few
  have hend := endOf_le hx
  have HX := hid_of hx
  have hds : (dat.size : Int) = e - lo := by rw [hdat, ByteArray.size_extract]; omega
  have HB : Hid (∀ (i : Nat) (h : i < dat.size), bAt D (lo + (i : Int)) = ((dat[i]'h).toNat : Int)) := by
    unfold Hid
    subst hdat
    intro i h
    rw [bAt_ext h, show ((lo.toNat + i : Nat) : Int) = lo + i from by omega]
  obtain ⟨q, hq⟩ : ∃ q, endOf 0 L = q := ⟨_, rfl⟩
  rw [hq] at hend
  have HQ := hid_of hq
  obtain ⟨s, hs'⟩ : ∃ s, dat.size = s := ⟨_, rfl⟩
  have HV1 : Hid (decide (0 ≤ lo ∧ lo ≤ 30) = true) := hid_of (decide_eq_true (by omega))
  have hd1000 : dat.size ≤ 1000 := by omega
  have hwe : IntKind.i64.wrap (lo + (dat.size : Int)) = e := by rw [show lo + (dat.size : Int) = e from by omega]; exact IntWalk.i64_in _ (by omega)
  have c12 : decide (12 < (dat.size : Int)) = false := decide_eq_false (by omega)
  have c30 : decide (30 < e) = false := decide_eq_false (by omega)
  have c30' : ¬ (30 < e) := by omega
  have cq : decide (e < q) = decide (e < q) := rfl
  have HVF : Hid (F = -1 ∨ (endOf 0 L ≤ F ∧ F ≤ 30)) := hid_of (.inr ⟨by omega, by omega⟩)
  have HRL : Hid (∀ r, r ∈ L → (0 : Int) ≤ r.lo) := hid_of fun r hr => (hx.b r hr).1
  have f1 : (F == -1) = false := by rw [beq_eq_false_iff_ne]; omega
  have f3 : decide (F < e) = false := decide_eq_false (by omega)
  have cl : decide (0 < (dat.size : Int)) = false := decide_eq_false (by omega)
  have cl3 : ¬ (0 < dat.size) := by omega
  have hwn : IntKind.i64.wrap (-lo) = -lo := IntWalk.i64_in _ (by omega)
  have hwn' : IntKind.i64.wrap (0 - lo) = -lo := by rw [show 0 - lo = -lo from by omega]; exact hwn
  have cn : decide (0 < -lo) = false := decide_eq_false (by omega)
  have cn' : ¬ (lo < 0) := by omega
  have HDAT := hid_of hdat
  have HDS := hid_of hds
  have hBX : Hid (Own4 ((w.alloc (.cells #[.int .i64 0, .slice A L.length c, .int .i64 F, .int .i64 30] 58)).alloc (.cells #[.int .i64 0, .slice none 0 0, .int .i64 0, .int .i64 0] 58)) w.heap.size 0 A L.length c F 30) := hid_of ((Own4.newT _ _).alloc _)
  have hY : Hid (Own4 ((w.alloc (.cells #[.int .i64 0, .slice A L.length c, .int .i64 F, .int .i64 30] 58)).alloc (.cells #[.int .i64 0, .slice none 0 0, .int .i64 0, .int .i64 0] 58)) (w.heap.size + 1) 0 none 0 0 0 0) := hid_of (by have := Own4.newT (R := 0) (A := none) (n := 0) (c := 0) (F := 0) (l := 0) (w.alloc (.cells #[.int .i64 0, .slice A L.length c, .int .i64 F, .int .i64 30] 58)) 58; simpa using this)
  have hA := (h.alloc (.cells #[.int .i64 0, .slice A L.length c, .int .i64 F, .int .i64 30] 58)).alloc (.cells #[.int .i64 0, .slice none 0 0, .int .i64 0, .int .i64 0] 58)
  have hb0 : Below w.heap.size w ((w.alloc (.cells #[.int .i64 0, .slice A L.length c, .int .i64 F, .int .i64 30] 58)).alloc (.cells #[.int .i64 0, .slice none 0 0, .int .i64 0, .int .i64 0] 58)) := ((Below.refl _ w).alloc (Nat.le_refl _) _).alloc (by simp) _
  have hs0 : w.heap.size + 2 ≤ ((w.alloc (.cells #[.int .i64 0, .slice A L.length c, .int .i64 F, .int .i64 30] 58)).alloc (.cells #[.int .i64 0, .slice none 0 0, .int .i64 0, .int .i64 0] 58)).heap.size := by simp
  clear hx hq hdat hds hs' hend h
  go_enter Try.func42, Try.ntmps42
  go_wp2_with fail
  generalize hW : World.alloc (World.alloc w _) _ = W0 at *
  clear hW
  with_reducible refine (rvalid_v HX.out ⟨by omega, by omega⟩ HRL.out (HVF.out) W0 hA).mono ?_
  rintro e' w1 ⟨rfl, hb⟩
  have BX := hid_of (hBX.out.grow hb)
  have Y := hid_of (hY.out.grow hb)
  have A1 := hid_of (hA.below hb)
  have hbw := hb0.trans (hb.mono hb0.size)
  have hs : w.heap.size + 2 ≤ w1.heap.size := by have := hb.size; omega
  clear hBX hY hA hb0 hs0 hb
  obtain ⟨⟨z0, z1, z2, z3⟩, zf⟩ := BX.out
  go_wp2_with (go_at_call 55; (with_reducible refine (within_v HV1.out _).mono ?_); rintro e w9 ⟨rfl, rfl⟩)
  with_reducible refine (copy_r w1 A1.out hnone (by omega)).mono ?_
  rintro e' w2 ⟨A', c', rfl, hI, hb⟩
  have hs1 := hb.size
  have BX := hid_of (BX.out.grow hb)
  have Y := hid_of (Y.out.grow hb)
  have I := hid_of hI
  have hn' : A' = none → c' = 0 := fun e => by
    rcases hI.2.2 with ⟨_, e2⟩ | ⟨_, g, e2, _⟩
    · exact e2
    · rw [e] at e2; cases e2
  have HN := hid_of hn'
  have hc' : L.length ≤ c' := hI.cap.1
  have A2 := hid_of (A1.out.below hb)
  have hbw := hbw.trans (hb.mono hbw.size)
  clear hI hb A1 z0 z1 z2 z3 zf hn'
  go_upto_region 4 with (fail)
  generalize hW : World.alloc w2 _ = w3
  obtain ⟨ob, hob⟩ : ∃ b, w2.heap.size = b := ⟨_, rfl⟩
  have hb : Below w2.heap.size w2 w3 := by rw [← hW]; exact (Below.refl _ _).alloc (Nat.le_refl _) _
  have X : Hid (Own4 w3 ob 0 A' L.length c' F 30) := by rw [← hW, ← hob]; exact hid_of (Own4.newT _ _)
  have BX := hid_of (BX.out.grow hb)
  have Y := hid_of (Y.out.grow hb)
  have I := hid_of (I.out.below hb)
  have A3 := hid_of (A2.out.below hb)
  have hbw := hbw.trans (hb.mono hbw.size)
  have ho : ob < w3.heap.size := by rw [← hW, ← hob]; simp
  have hs : w.heap.size + 2 ≤ w3.heap.size := by have := hb.size; omega
  have hob1 : w1.heap.size ≤ ob := by omega
  have hob2 : w.heap.size + 2 ≤ w1.heap.size := by omega
  rw [hob] at I ⊢
  clear hW A2 hb hob hs1
  obtain ⟨⟨z0, z1, z2, z3⟩, zf⟩ := BX.out
  obtain ⟨⟨x0, x1, x2, x3⟩, xf⟩ := X.out
  have A4 := A3
  go_upto_region 17 with (first
    | (go_at_call 77; (with_reducible refine (rend_v HQ.out HX.out _ A4.out).mono ?_); rintro e' wn ⟨rfl, hb⟩; have A4 := hid_of (A4.out.below hb); have BX := hid_of (BX.out.grow hb); have Y := hid_of (Y.out.grow hb); have X := hid_of (X.out.grow hb); have I := hid_of (I.out.below hb); have hbw := hbw.trans (hb.mono hbw.size); have hs := (show w.heap.size + 2 ≤ _ from Nat.le_trans hs hb.size); have ho := Nat.lt_of_lt_of_le ho hb.size; clear z0 z1 z2 z3 zf x0 x1 x2 x3 xf hb; obtain ⟨⟨z0, z1, z2, z3⟩, zf⟩ := BX.out; obtain ⟨⟨x0, x1, x2, x3⟩, xf⟩ := X.out)
    | (go_at_call 78; (with_reducible refine (conf_v HB.out HX.out (by omega) hd1000 _ A4.out).mono ?_); rintro e' wn ⟨rfl, hb⟩; have A4 := hid_of (A4.out.below hb); have BX := hid_of (BX.out.grow hb); have Y := hid_of (Y.out.grow hb); have X := hid_of (X.out.grow hb); have I := hid_of (I.out.below hb); have hbw := hbw.trans (hb.mono hbw.size); have hs := (show w.heap.size + 2 ≤ _ from Nat.le_trans hs hb.size); have ho := Nat.lt_of_lt_of_le ho hb.size; clear z0 z1 z2 z3 zf x0 x1 x2 x3 xf hb; obtain ⟨⟨z0, z1, z2, z3⟩, zf⟩ := BX.out; obtain ⟨⟨x0, x1, x2, x3⟩, xf⟩ := X.out))
  rename World => w5
  have X5 := X
  have Y5 := Y
  have I5 := I
  have hb5 := hbw
  have hs5 := (show w.heap.size + 2 ≤ w5.heap.size ∧ ob < w5.heap.size from ⟨hs, ho⟩)
  clear X Y I hbw hs ho
  clear BX A3 A4 z0 z1 z2 z3 zf x0 x1 x2 x3 xf
  obtain ⟨hs5, ho5⟩ := hs5
  obtain ⟨⟨x0, x1, x2, x3⟩, xf⟩ := X5.out
  obtain ⟨⟨y0, y1, y2, y3⟩, yf⟩ := Y5.out
  go_wp2_with fail
  try simp only [Exit.inBlock, Exit.then]
  refine bodyPost_ret (results_rv rfl rfl rfl (Y5.out.setAll _ _ _ _ _ _)) rfl ?_
  refine ⟨A', c', rfl, ?_, ?_⟩
  · have t := touch4 w5 (w.heap.size + 1) (.int .i64 0) (.slice A' L.length c') (.int .i64 F) (.int .i64 30)
    exact (I5.out.touch t (.inr (by omega))).mono (by omega) (Nat.le_trans (Nat.le_of_lt ho5) t.size)
  · repeat refine Below.setCell ?_ (by dsimp only; omega) _
    exact hb5

set_option linter.unusedVariables false in
set_option maxRecDepth 100000 in
set_option maxHeartbeats 4000000 in
theorem put_fmp {D dat : ByteArray} {L : List Rg} {lo e F : Int} {A : Option Addr} {c : Nat} (hx : Rx D L) (h0 : 0 ≤ lo) (h1 : lo < (D.size : Int)) (h2 : (D.size : Int) ≤ D.size) (h12 : (D.size : Int) ≤ lo + 12) (hdat : dat = D.extract lo.toNat ((D.size : Int)).toNat) {M : List Rg} (hM : add L lo ((D.size : Int) - 1) = M) (w : World) (h : PcAt w A L.length (pcs D L)) (hnone : A = none → c = 0) :
    Calls Try.prog 42 #[.agg #[.int .i64 0, .slice A L.length c, .int .i64 (-1), .int .i64 30], .int .i64 lo, .string dat, .bool true] w (GotRv w D M (D.size : Int)) := by
  have hlen := hx.len
  have hfew := hx.few
  have hend := endOf_le hx
  have HX := hid_of hx
  have hds : (dat.size : Int) = (D.size : Int) - lo := by rw [hdat, ByteArray.size_extract]; omega
  have HB : Hid (∀ (i : Nat) (h : i < dat.size), bAt D (lo + (i : Int)) = ((dat[i]'h).toNat : Int)) := by
    unfold Hid
    subst hdat
    intro i h
    rw [bAt_ext h, show ((lo.toNat + i : Nat) : Int) = lo + i from by omega]
  obtain ⟨q, hq⟩ : ∃ q, endOf 0 L = q := ⟨_, rfl⟩
  rw [hq] at hend
  have HQ := hid_of hq
  obtain ⟨s, hs'⟩ : ∃ s, dat.size = s := ⟨_, rfl⟩
  have HV1 : Hid (decide (0 ≤ lo ∧ lo ≤ 30) = true) := hid_of (decide_eq_true (by omega))
  have hd1000 : dat.size ≤ 1000 := by omega
  have hwe : IntKind.i64.wrap (lo + (dat.size : Int)) = (D.size : Int) := by rw [show lo + (dat.size : Int) = (D.size : Int) from by omega]; exact IntWalk.i64_in _ (by omega)
  have c12 : decide (12 < (dat.size : Int)) = false := decide_eq_false (by omega)
  have c30 : decide (30 < (D.size : Int)) = false := decide_eq_false (by omega)
  have c30' : ¬ (30 < (D.size : Int)) := by omega
  have cq : decide ((D.size : Int) < q) = false := decide_eq_false (by omega)
  have HVF : Hid ((-1) = -1 ∨ (endOf 0 L ≤ (-1) ∧ (-1) ≤ 30)) := hid_of (.inl rfl)
  have HRL : Hid (∀ r, r ∈ L → (0 : Int) ≤ r.lo) := hid_of fun r hr => (hx.b r hr).1
  have cl : decide (0 < (dat.size : Int)) = true := decide_eq_true (by omega)
  have cl2 : (0 : Int) < (dat.size : Int) := by omega
  have cl3 : 0 < dat.size := by omega
  have hwn : IntKind.i64.wrap (-lo) = -lo := IntWalk.i64_in _ (by omega)
  have hwn' : IntKind.i64.wrap (0 - lo) = -lo := by rw [show 0 - lo = -lo from by omega]; exact hwn
  have cn : decide (0 < -lo) = false := decide_eq_false (by omega)
  have cn' : ¬ (lo < 0) := by omega
  have HDAT := hid_of hdat
  have HDS := hid_of hds
  have hBX : Hid (Own4 ((w.alloc (.cells #[.int .i64 0, .slice A L.length c, .int .i64 (-1), .int .i64 30] 58)).alloc (.cells #[.int .i64 0, .slice none 0 0, .int .i64 0, .int .i64 0] 58)) w.heap.size 0 A L.length c (-1) 30) := hid_of ((Own4.newT _ _).alloc _)
  have hY : Hid (Own4 ((w.alloc (.cells #[.int .i64 0, .slice A L.length c, .int .i64 (-1), .int .i64 30] 58)).alloc (.cells #[.int .i64 0, .slice none 0 0, .int .i64 0, .int .i64 0] 58)) (w.heap.size + 1) 0 none 0 0 0 0) := hid_of (by have := Own4.newT (R := 0) (A := none) (n := 0) (c := 0) (F := 0) (l := 0) (w.alloc (.cells #[.int .i64 0, .slice A L.length c, .int .i64 (-1), .int .i64 30] 58)) 58; simpa using this)
  have hA := (h.alloc (.cells #[.int .i64 0, .slice A L.length c, .int .i64 (-1), .int .i64 30] 58)).alloc (.cells #[.int .i64 0, .slice none 0 0, .int .i64 0, .int .i64 0] 58)
  have hb0 : Below w.heap.size w ((w.alloc (.cells #[.int .i64 0, .slice A L.length c, .int .i64 (-1), .int .i64 30] 58)).alloc (.cells #[.int .i64 0, .slice none 0 0, .int .i64 0, .int .i64 0] 58)) := ((Below.refl _ w).alloc (Nat.le_refl _) _).alloc (by simp) _
  have hs0 : w.heap.size + 2 ≤ ((w.alloc (.cells #[.int .i64 0, .slice A L.length c, .int .i64 (-1), .int .i64 30] 58)).alloc (.cells #[.int .i64 0, .slice none 0 0, .int .i64 0, .int .i64 0] 58)).heap.size := by simp
  clear hx hq hdat hds hs' hend h
  go_enter Try.func42, Try.ntmps42
  go_wp2_with fail
  generalize hW : World.alloc (World.alloc w _) _ = W0 at *
  clear hW
  with_reducible refine (rvalid_v HX.out ⟨by omega, by omega⟩ HRL.out (.inl rfl) W0 hA).mono ?_
  rintro e' w1 ⟨rfl, hb⟩
  have BX := hid_of (hBX.out.grow hb)
  have Y := hid_of (hY.out.grow hb)
  have A1 := hid_of (hA.below hb)
  have hbw := hb0.trans (hb.mono hb0.size)
  have hs : w.heap.size + 2 ≤ w1.heap.size := by have := hb.size; omega
  clear hBX hY hA hb0 hs0 hb
  obtain ⟨⟨z0, z1, z2, z3⟩, zf⟩ := BX.out
  go_wp2_with (go_at_call 55; (with_reducible refine (within_v HV1.out _).mono ?_); rintro e w9 ⟨rfl, rfl⟩)
  with_reducible refine (copy_r w1 A1.out hnone (by omega)).mono ?_
  rintro e' w2 ⟨A', c', rfl, hI, hb⟩
  have hs1 := hb.size
  have BX := hid_of (BX.out.grow hb)
  have Y := hid_of (Y.out.grow hb)
  have I := hid_of hI
  have hn' : A' = none → c' = 0 := fun e => by
    rcases hI.2.2 with ⟨_, e2⟩ | ⟨_, g, e2, _⟩
    · exact e2
    · rw [e] at e2; cases e2
  have HN := hid_of hn'
  have hc' : L.length ≤ c' := hI.cap.1
  have A2 := hid_of (A1.out.below hb)
  have hbw := hbw.trans (hb.mono hbw.size)
  clear hI hb A1 z0 z1 z2 z3 zf hn'
  go_upto_region 4 with (fail)
  generalize hW : World.alloc w2 _ = w3
  obtain ⟨ob, hob⟩ : ∃ b, w2.heap.size = b := ⟨_, rfl⟩
  have hb : Below w2.heap.size w2 w3 := by rw [← hW]; exact (Below.refl _ _).alloc (Nat.le_refl _) _
  have X : Hid (Own4 w3 ob 0 A' L.length c' (-1) 30) := by rw [← hW, ← hob]; exact hid_of (Own4.newT _ _)
  have BX := hid_of (BX.out.grow hb)
  have Y := hid_of (Y.out.grow hb)
  have I := hid_of (I.out.below hb)
  have A3 := hid_of (A2.out.below hb)
  have hbw := hbw.trans (hb.mono hbw.size)
  have ho : ob < w3.heap.size := by rw [← hW, ← hob]; simp
  have hs : w.heap.size + 2 ≤ w3.heap.size := by have := hb.size; omega
  have hob1 : w1.heap.size ≤ ob := by omega
  have hob2 : w.heap.size + 2 ≤ w1.heap.size := by omega
  rw [hob] at I ⊢
  clear hW A2 hb hob hs1
  obtain ⟨⟨z0, z1, z2, z3⟩, zf⟩ := BX.out
  obtain ⟨⟨x0, x1, x2, x3⟩, xf⟩ := X.out
  have A4 := A3
  go_wp2_with (first
    | (go_at_call 77; (with_reducible refine (rend_v HQ.out HX.out _ A4.out).mono ?_); rintro e' wn ⟨rfl, hb⟩; have A4 := hid_of (A4.out.below hb); have BX := hid_of (BX.out.grow hb); have Y := hid_of (Y.out.grow hb); have X := hid_of (X.out.grow hb); have I := hid_of (I.out.below hb); have hbw := hbw.trans (hb.mono hbw.size); have hs := (show w.heap.size + 2 ≤ _ from Nat.le_trans hs hb.size); have ho := Nat.lt_of_lt_of_le ho hb.size; clear z0 z1 z2 z3 zf x0 x1 x2 x3 xf hb; obtain ⟨⟨z0, z1, z2, z3⟩, zf⟩ := BX.out; obtain ⟨⟨x0, x1, x2, x3⟩, xf⟩ := X.out)
    | (go_at_call 78; (with_reducible refine (conf_v HB.out HX.out (by omega) hd1000 _ A4.out).mono ?_); rintro e' wn ⟨rfl, hb⟩; have A4 := hid_of (A4.out.below hb); have BX := hid_of (BX.out.grow hb); have Y := hid_of (Y.out.grow hb); have X := hid_of (X.out.grow hb); have I := hid_of (I.out.below hb); have hbw := hbw.trans (hb.mono hbw.size); have hs := (show w.heap.size + 2 ≤ _ from Nat.le_trans hs hb.size); have ho := Nat.lt_of_lt_of_le ho hb.size; clear z0 z1 z2 z3 zf x0 x1 x2 x3 xf hb; obtain ⟨⟨z0, z1, z2, z3⟩, zf⟩ := BX.out; obtain ⟨⟨x0, x1, x2, x3⟩, xf⟩ := X.out))
  generalize hW : World.setCell _ _ _ = w5
  have X5 : Hid (Own4 w5 ob 0 A' L.length c' (D.size : Int) 30) := by rw [← hW]; exact hid_of (X.out.set2 _)
  have Y5 : Hid (Own4 w5 (w.heap.size + 1) 0 none 0 0 0 0) := by rw [← hW]; exact hid_of (Y.out.other (by dsimp only; omega) _)
  have I5 : Hid (PcIn w5 w1.heap.size ob A' L.length c' (pcs D L)) := by rw [← hW]; exact hid_of (I.out.touch ((Touch.refl _ ob (ob + 1)).setCell (Nat.le_refl _) (Nat.lt_succ_self _) _) (.inl (Nat.le_refl _)))
  have hb5 : Below w.heap.size w w5 := by rw [← hW]; exact hbw.setCell (by dsimp only; omega) _
  have hs5 : w.heap.size + 2 ≤ w5.heap.size ∧ ob < w5.heap.size := by rw [← hW]; simp [World.setCell]; omega
  clear hW X Y I hbw hs ho
  clear BX A3 A4 z0 z1 z2 z3 zf x0 x1 x2 x3 xf
  obtain ⟨hs5, ho5⟩ := hs5
  obtain ⟨⟨x0, x1, x2, x3⟩, xf⟩ := X5.out
  have u1 := fun y => Up.cell x1 y
  have hwl : IntKind.i64.wrap (lo + 0) = lo := by rw [Int.add_zero]; exact IntWalk.i64_in _ (by omega)
  have hwl' : IntKind.i64.wrap lo = lo := IntWalk.i64_in _ (by omega)
  have hdd : dat.extract 0 dat.size = dat := ByteArray.extract_zero_size
  have z00 : (0 : Int) ≤ (dat.size : Int) := by omega
  refine wp_region_up_tail 9 (by kernel_rfl) (by kernel_rfl) ?_
  simp only [List.take_succ_cons, List.take_zero, List.drop_succ_cons, List.drop_zero]
  repeat (quiet_step (fail))
  refine wpQuiet_nil ?_
  intro w6 hb
  have X6 := hid_of (X5.out.grow hb)
  have Y6 := hid_of (Y5.out.grow hb)
  have I6 := hid_of (I5.out.below hb)
  have hb6 := hb5.trans (hb.mono hb5.size)
  have hs6 := hb.size
  clear u1 x0 x1 x2 x3 xf X5 Y5 I5 hb5 hb
  obtain ⟨⟨x0, x1, x2, x3⟩, xf⟩ := X6.out
  have HDT : Hid (dat = D.extract lo.toNat (((D.size : Int) - 1) + 1).toNat) := hid_of (by rw [show ((D.size : Int) - 1) + 1 = (D.size : Int) from by omega]; exact HDAT.out)
  go_wp2_with (go_at_call 79; (with_reducible refine (mp_any HX.out h0 (by omega) (by omega) HDT.out w6 I6.out.reads HN.out hc').mono ?_); rintro e' w7 ⟨A7, c7, rfl, hI7, hb7⟩; have X7 := hid_of (X6.out.grow hb7); have Y7 := hid_of (Y6.out.grow hb7); have I7 := hid_of hI7; have hb8 := hb6.trans (hb7.mono hb6.size); have hs7 := hb7.size; clear x0 x1 x2 x3 xf hI7 hb7; obtain ⟨⟨x0, x1, x2, x3⟩, xf⟩ := X7.out; obtain ⟨⟨y0, y1, y2, y3⟩, yf⟩ := Y7.out)
  try simp only [Exit.inBlock, Exit.then]
  refine bodyPost_ret (results_rv rfl rfl rfl ((Y7.out.other (by dsimp only; omega) _).setAll _ _ _ _ _ _)) rfl ?_
  refine ⟨A7, c7, by rw [← hM]; rfl, ?_, ?_⟩
  · rw [← hM]
    refine PcIn.touch_all (Lo := w6.heap.size) (B := w.heap.size + 1) (S := ob + 1) I7.out ?_ (by omega) (by omega)
    repeat refine Touch.setCell ?_ (by dsimp only; omega) (by dsimp only; omega) _
    exact Touch.refl w7 (w.heap.size + 1) (ob + 1)
  · repeat refine Below.setCell ?_ (by dsimp only; omega) _
    exact hb8

set_option linter.unusedVariables false in
set_option maxRecDepth 100000 in
set_option maxHeartbeats 4000000 in
theorem put_fme {D dat : ByteArray} {L : List Rg} {lo e F : Int} {A : Option Addr} {c : Nat} (hx : Rx D L) (h0 : 0 ≤ lo) (h1 : lo ≤ (D.size : Int)) (h1b : (D.size : Int) ≤ lo) (h2 : (D.size : Int) ≤ D.size) (h12 : (D.size : Int) ≤ lo + 12) (hdat : dat = D.extract lo.toNat ((D.size : Int)).toNat) (w : World) (h : PcAt w A L.length (pcs D L)) (hnone : A = none → c = 0) :
    Calls Try.prog 42 #[.agg #[.int .i64 0, .slice A L.length c, .int .i64 (-1), .int .i64 30], .int .i64 lo, .string dat, .bool true] w (GotRv w D L (D.size : Int)) := by
  have hlen := hx.len
  have hfew := hx.few
  have hend := endOf_le hx
  have HX := hid_of hx
  have hds : (dat.size : Int) = (D.size : Int) - lo := by rw [hdat, ByteArray.size_extract]; omega
  have HB : Hid (∀ (i : Nat) (h : i < dat.size), bAt D (lo + (i : Int)) = ((dat[i]'h).toNat : Int)) := by
    unfold Hid
    subst hdat
    intro i h
    rw [bAt_ext h, show ((lo.toNat + i : Nat) : Int) = lo + i from by omega]
  obtain ⟨q, hq⟩ : ∃ q, endOf 0 L = q := ⟨_, rfl⟩
  rw [hq] at hend
  have HQ := hid_of hq
  obtain ⟨s, hs'⟩ : ∃ s, dat.size = s := ⟨_, rfl⟩
  have HV1 : Hid (decide (0 ≤ lo ∧ lo ≤ 30) = true) := hid_of (decide_eq_true (by omega))
  have hd1000 : dat.size ≤ 1000 := by omega
  have hwe : IntKind.i64.wrap (lo + (dat.size : Int)) = (D.size : Int) := by rw [show lo + (dat.size : Int) = (D.size : Int) from by omega]; exact IntWalk.i64_in _ (by omega)
  have c12 : decide (12 < (dat.size : Int)) = false := decide_eq_false (by omega)
  have c30 : decide (30 < (D.size : Int)) = false := decide_eq_false (by omega)
  have c30' : ¬ (30 < (D.size : Int)) := by omega
  have cq : decide ((D.size : Int) < q) = false := decide_eq_false (by omega)
  have HVF : Hid ((-1) = -1 ∨ (endOf 0 L ≤ (-1) ∧ (-1) ≤ 30)) := hid_of (.inl rfl)
  have HRL : Hid (∀ r, r ∈ L → (0 : Int) ≤ r.lo) := hid_of fun r hr => (hx.b r hr).1
  have cl : decide (0 < (dat.size : Int)) = false := decide_eq_false (by omega)
  have cl3 : ¬ (0 < dat.size) := by omega
  have hwn : IntKind.i64.wrap (-lo) = -lo := IntWalk.i64_in _ (by omega)
  have hwn' : IntKind.i64.wrap (0 - lo) = -lo := by rw [show 0 - lo = -lo from by omega]; exact hwn
  have cn : decide (0 < -lo) = false := decide_eq_false (by omega)
  have cn' : ¬ (lo < 0) := by omega
  have HDAT := hid_of hdat
  have HDS := hid_of hds
  have hBX : Hid (Own4 ((w.alloc (.cells #[.int .i64 0, .slice A L.length c, .int .i64 (-1), .int .i64 30] 58)).alloc (.cells #[.int .i64 0, .slice none 0 0, .int .i64 0, .int .i64 0] 58)) w.heap.size 0 A L.length c (-1) 30) := hid_of ((Own4.newT _ _).alloc _)
  have hY : Hid (Own4 ((w.alloc (.cells #[.int .i64 0, .slice A L.length c, .int .i64 (-1), .int .i64 30] 58)).alloc (.cells #[.int .i64 0, .slice none 0 0, .int .i64 0, .int .i64 0] 58)) (w.heap.size + 1) 0 none 0 0 0 0) := hid_of (by have := Own4.newT (R := 0) (A := none) (n := 0) (c := 0) (F := 0) (l := 0) (w.alloc (.cells #[.int .i64 0, .slice A L.length c, .int .i64 (-1), .int .i64 30] 58)) 58; simpa using this)
  have hA := (h.alloc (.cells #[.int .i64 0, .slice A L.length c, .int .i64 (-1), .int .i64 30] 58)).alloc (.cells #[.int .i64 0, .slice none 0 0, .int .i64 0, .int .i64 0] 58)
  have hb0 : Below w.heap.size w ((w.alloc (.cells #[.int .i64 0, .slice A L.length c, .int .i64 (-1), .int .i64 30] 58)).alloc (.cells #[.int .i64 0, .slice none 0 0, .int .i64 0, .int .i64 0] 58)) := ((Below.refl _ w).alloc (Nat.le_refl _) _).alloc (by simp) _
  have hs0 : w.heap.size + 2 ≤ ((w.alloc (.cells #[.int .i64 0, .slice A L.length c, .int .i64 (-1), .int .i64 30] 58)).alloc (.cells #[.int .i64 0, .slice none 0 0, .int .i64 0, .int .i64 0] 58)).heap.size := by simp
  clear hx hq hdat hds hs' hend h
  go_enter Try.func42, Try.ntmps42
  go_wp2_with fail
  generalize hW : World.alloc (World.alloc w _) _ = W0 at *
  clear hW
  with_reducible refine (rvalid_v HX.out ⟨by omega, by omega⟩ HRL.out (.inl rfl) W0 hA).mono ?_
  rintro e' w1 ⟨rfl, hb⟩
  have BX := hid_of (hBX.out.grow hb)
  have Y := hid_of (hY.out.grow hb)
  have A1 := hid_of (hA.below hb)
  have hbw := hb0.trans (hb.mono hb0.size)
  have hs : w.heap.size + 2 ≤ w1.heap.size := by have := hb.size; omega
  clear hBX hY hA hb0 hs0 hb
  obtain ⟨⟨z0, z1, z2, z3⟩, zf⟩ := BX.out
  go_wp2_with (go_at_call 55; (with_reducible refine (within_v HV1.out _).mono ?_); rintro e w9 ⟨rfl, rfl⟩)
  with_reducible refine (copy_r w1 A1.out hnone (by omega)).mono ?_
  rintro e' w2 ⟨A', c', rfl, hI, hb⟩
  have hs1 := hb.size
  have BX := hid_of (BX.out.grow hb)
  have Y := hid_of (Y.out.grow hb)
  have I := hid_of hI
  have hn' : A' = none → c' = 0 := fun e => by
    rcases hI.2.2 with ⟨_, e2⟩ | ⟨_, g, e2, _⟩
    · exact e2
    · rw [e] at e2; cases e2
  have HN := hid_of hn'
  have hc' : L.length ≤ c' := hI.cap.1
  have A2 := hid_of (A1.out.below hb)
  have hbw := hbw.trans (hb.mono hbw.size)
  clear hI hb A1 z0 z1 z2 z3 zf hn'
  go_upto_region 4 with (fail)
  generalize hW : World.alloc w2 _ = w3
  obtain ⟨ob, hob⟩ : ∃ b, w2.heap.size = b := ⟨_, rfl⟩
  have hb : Below w2.heap.size w2 w3 := by rw [← hW]; exact (Below.refl _ _).alloc (Nat.le_refl _) _
  have X : Hid (Own4 w3 ob 0 A' L.length c' (-1) 30) := by rw [← hW, ← hob]; exact hid_of (Own4.newT _ _)
  have BX := hid_of (BX.out.grow hb)
  have Y := hid_of (Y.out.grow hb)
  have I := hid_of (I.out.below hb)
  have A3 := hid_of (A2.out.below hb)
  have hbw := hbw.trans (hb.mono hbw.size)
  have ho : ob < w3.heap.size := by rw [← hW, ← hob]; simp
  have hs : w.heap.size + 2 ≤ w3.heap.size := by have := hb.size; omega
  have hob1 : w1.heap.size ≤ ob := by omega
  have hob2 : w.heap.size + 2 ≤ w1.heap.size := by omega
  rw [hob] at I ⊢
  clear hW A2 hb hob hs1
  obtain ⟨⟨z0, z1, z2, z3⟩, zf⟩ := BX.out
  obtain ⟨⟨x0, x1, x2, x3⟩, xf⟩ := X.out
  have A4 := A3
  go_upto_region 17 with (first
    | (go_at_call 77; (with_reducible refine (rend_v HQ.out HX.out _ A4.out).mono ?_); rintro e' wn ⟨rfl, hb⟩; have A4 := hid_of (A4.out.below hb); have BX := hid_of (BX.out.grow hb); have Y := hid_of (Y.out.grow hb); have X := hid_of (X.out.grow hb); have I := hid_of (I.out.below hb); have hbw := hbw.trans (hb.mono hbw.size); have hs := (show w.heap.size + 2 ≤ _ from Nat.le_trans hs hb.size); have ho := Nat.lt_of_lt_of_le ho hb.size; clear z0 z1 z2 z3 zf x0 x1 x2 x3 xf hb; obtain ⟨⟨z0, z1, z2, z3⟩, zf⟩ := BX.out; obtain ⟨⟨x0, x1, x2, x3⟩, xf⟩ := X.out)
    | (go_at_call 78; (with_reducible refine (conf_v HB.out HX.out (by omega) hd1000 _ A4.out).mono ?_); rintro e' wn ⟨rfl, hb⟩; have A4 := hid_of (A4.out.below hb); have BX := hid_of (BX.out.grow hb); have Y := hid_of (Y.out.grow hb); have X := hid_of (X.out.grow hb); have I := hid_of (I.out.below hb); have hbw := hbw.trans (hb.mono hbw.size); have hs := (show w.heap.size + 2 ≤ _ from Nat.le_trans hs hb.size); have ho := Nat.lt_of_lt_of_le ho hb.size; clear z0 z1 z2 z3 zf x0 x1 x2 x3 xf hb; obtain ⟨⟨z0, z1, z2, z3⟩, zf⟩ := BX.out; obtain ⟨⟨x0, x1, x2, x3⟩, xf⟩ := X.out))
  generalize hW : World.setCell _ _ _ = w5
  have X5 : Hid (Own4 w5 ob 0 A' L.length c' (D.size : Int) 30) := by rw [← hW]; exact hid_of (X.out.set2 _)
  have Y5 : Hid (Own4 w5 (w.heap.size + 1) 0 none 0 0 0 0) := by rw [← hW]; exact hid_of (Y.out.other (by dsimp only; omega) _)
  have I5 : Hid (PcIn w5 w1.heap.size ob A' L.length c' (pcs D L)) := by rw [← hW]; exact hid_of (I.out.touch ((Touch.refl _ ob (ob + 1)).setCell (Nat.le_refl _) (Nat.lt_succ_self _) _) (.inl (Nat.le_refl _)))
  have hb5 : Below w.heap.size w w5 := by rw [← hW]; exact hbw.setCell (by dsimp only; omega) _
  have hs5 : w.heap.size + 2 ≤ w5.heap.size ∧ ob < w5.heap.size := by rw [← hW]; simp [World.setCell]; omega
  clear hW X Y I hbw hs ho
  clear BX A3 A4 z0 z1 z2 z3 zf x0 x1 x2 x3 xf
  obtain ⟨hs5, ho5⟩ := hs5
  obtain ⟨⟨x0, x1, x2, x3⟩, xf⟩ := X5.out
  obtain ⟨⟨y0, y1, y2, y3⟩, yf⟩ := Y5.out
  go_wp2_with fail
  try simp only [Exit.inBlock, Exit.then]
  refine bodyPost_ret (results_rv rfl rfl rfl (Y5.out.setAll _ _ _ _ _ _)) rfl ?_
  refine ⟨A', c', rfl, ?_, ?_⟩
  · have t := touch4 w5 (w.heap.size + 1) (.int .i64 0) (.slice A' L.length c') (.int .i64 (D.size : Int)) (.int .i64 30)
    exact (I5.out.touch t (.inr (by omega))).mono (by omega) (Nat.le_trans (Nat.le_of_lt ho5) t.size)
  · repeat refine Below.setCell ?_ (by dsimp only; omega) _
    exact hb5

set_option linter.unusedVariables false in
set_option maxRecDepth 100000 in
set_option maxHeartbeats 4000000 in
theorem put_fsp {D dat : ByteArray} {L : List Rg} {lo e F : Int} {A : Option Addr} {c : Nat} (hx : Rx D L) (hF0 : F ≤ (D.size : Int)) (hF1 : (D.size : Int) ≤ F) (h0 : 0 ≤ lo) (h1 : lo < (D.size : Int)) (h2 : (D.size : Int) ≤ D.size) (h12 : (D.size : Int) ≤ lo + 12) (hdat : dat = D.extract lo.toNat ((D.size : Int)).toNat) {M : List Rg} (hM : add L lo ((D.size : Int) - 1) = M) (w : World) (h : PcAt w A L.length (pcs D L)) (hnone : A = none → c = 0) :
    Calls Try.prog 42 #[.agg #[.int .i64 0, .slice A L.length c, .int .i64 F, .int .i64 30], .int .i64 lo, .string dat, .bool true] w (GotRv w D M (D.size : Int)) := by
  have hlen := hx.len
  have hfew := hx.few
  have hend := endOf_le hx
  have HX := hid_of hx
  have hds : (dat.size : Int) = (D.size : Int) - lo := by rw [hdat, ByteArray.size_extract]; omega
  have HB : Hid (∀ (i : Nat) (h : i < dat.size), bAt D (lo + (i : Int)) = ((dat[i]'h).toNat : Int)) := by
    unfold Hid
    subst hdat
    intro i h
    rw [bAt_ext h, show ((lo.toNat + i : Nat) : Int) = lo + i from by omega]
  obtain ⟨q, hq⟩ : ∃ q, endOf 0 L = q := ⟨_, rfl⟩
  rw [hq] at hend
  have HQ := hid_of hq
  obtain ⟨s, hs'⟩ : ∃ s, dat.size = s := ⟨_, rfl⟩
  have HV1 : Hid (decide (0 ≤ lo ∧ lo ≤ 30) = true) := hid_of (decide_eq_true (by omega))
  have hd1000 : dat.size ≤ 1000 := by omega
  have hwe : IntKind.i64.wrap (lo + (dat.size : Int)) = (D.size : Int) := by rw [show lo + (dat.size : Int) = (D.size : Int) from by omega]; exact IntWalk.i64_in _ (by omega)
  have c12 : decide (12 < (dat.size : Int)) = false := decide_eq_false (by omega)
  have c30 : decide (30 < (D.size : Int)) = false := decide_eq_false (by omega)
  have c30' : ¬ (30 < (D.size : Int)) := by omega
  have cq : decide ((D.size : Int) < q) = false := decide_eq_false (by omega)
  have HVF : Hid (F = -1 ∨ (endOf 0 L ≤ F ∧ F ≤ 30)) := hid_of (.inr ⟨by omega, by omega⟩)
  have HRL : Hid (∀ r, r ∈ L → (0 : Int) ≤ r.lo) := hid_of fun r hr => (hx.b r hr).1
  have f1 : (F == -1) = false := by rw [beq_eq_false_iff_ne]; omega
  have f2 : (F == (D.size : Int)) = true := by rw [beq_iff_eq]; omega
  have cl : decide (0 < (dat.size : Int)) = true := decide_eq_true (by omega)
  have cl2 : (0 : Int) < (dat.size : Int) := by omega
  have cl3 : 0 < dat.size := by omega
  have hwn : IntKind.i64.wrap (-lo) = -lo := IntWalk.i64_in _ (by omega)
  have hwn' : IntKind.i64.wrap (0 - lo) = -lo := by rw [show 0 - lo = -lo from by omega]; exact hwn
  have cn : decide (0 < -lo) = false := decide_eq_false (by omega)
  have cn' : ¬ (lo < 0) := by omega
  have HDAT := hid_of hdat
  have HDS := hid_of hds
  have hBX : Hid (Own4 ((w.alloc (.cells #[.int .i64 0, .slice A L.length c, .int .i64 F, .int .i64 30] 58)).alloc (.cells #[.int .i64 0, .slice none 0 0, .int .i64 0, .int .i64 0] 58)) w.heap.size 0 A L.length c F 30) := hid_of ((Own4.newT _ _).alloc _)
  have hY : Hid (Own4 ((w.alloc (.cells #[.int .i64 0, .slice A L.length c, .int .i64 F, .int .i64 30] 58)).alloc (.cells #[.int .i64 0, .slice none 0 0, .int .i64 0, .int .i64 0] 58)) (w.heap.size + 1) 0 none 0 0 0 0) := hid_of (by have := Own4.newT (R := 0) (A := none) (n := 0) (c := 0) (F := 0) (l := 0) (w.alloc (.cells #[.int .i64 0, .slice A L.length c, .int .i64 F, .int .i64 30] 58)) 58; simpa using this)
  have hA := (h.alloc (.cells #[.int .i64 0, .slice A L.length c, .int .i64 F, .int .i64 30] 58)).alloc (.cells #[.int .i64 0, .slice none 0 0, .int .i64 0, .int .i64 0] 58)
  have hb0 : Below w.heap.size w ((w.alloc (.cells #[.int .i64 0, .slice A L.length c, .int .i64 F, .int .i64 30] 58)).alloc (.cells #[.int .i64 0, .slice none 0 0, .int .i64 0, .int .i64 0] 58)) := ((Below.refl _ w).alloc (Nat.le_refl _) _).alloc (by simp) _
  have hs0 : w.heap.size + 2 ≤ ((w.alloc (.cells #[.int .i64 0, .slice A L.length c, .int .i64 F, .int .i64 30] 58)).alloc (.cells #[.int .i64 0, .slice none 0 0, .int .i64 0, .int .i64 0] 58)).heap.size := by simp
  clear hx hq hdat hds hs' hend h
  go_enter Try.func42, Try.ntmps42
  go_wp2_with fail
  generalize hW : World.alloc (World.alloc w _) _ = W0 at *
  clear hW
  with_reducible refine (rvalid_v HX.out ⟨by omega, by omega⟩ HRL.out (HVF.out) W0 hA).mono ?_
  rintro e' w1 ⟨rfl, hb⟩
  have BX := hid_of (hBX.out.grow hb)
  have Y := hid_of (hY.out.grow hb)
  have A1 := hid_of (hA.below hb)
  have hbw := hb0.trans (hb.mono hb0.size)
  have hs : w.heap.size + 2 ≤ w1.heap.size := by have := hb.size; omega
  clear hBX hY hA hb0 hs0 hb
  obtain ⟨⟨z0, z1, z2, z3⟩, zf⟩ := BX.out
  go_wp2_with (go_at_call 55; (with_reducible refine (within_v HV1.out _).mono ?_); rintro e w9 ⟨rfl, rfl⟩)
  with_reducible refine (copy_r w1 A1.out hnone (by omega)).mono ?_
  rintro e' w2 ⟨A', c', rfl, hI, hb⟩
  have hs1 := hb.size
  have BX := hid_of (BX.out.grow hb)
  have Y := hid_of (Y.out.grow hb)
  have I := hid_of hI
  have hn' : A' = none → c' = 0 := fun e => by
    rcases hI.2.2 with ⟨_, e2⟩ | ⟨_, g, e2, _⟩
    · exact e2
    · rw [e] at e2; cases e2
  have HN := hid_of hn'
  have hc' : L.length ≤ c' := hI.cap.1
  have A2 := hid_of (A1.out.below hb)
  have hbw := hbw.trans (hb.mono hbw.size)
  clear hI hb A1 z0 z1 z2 z3 zf hn'
  go_upto_region 4 with (fail)
  generalize hW : World.alloc w2 _ = w3
  obtain ⟨ob, hob⟩ : ∃ b, w2.heap.size = b := ⟨_, rfl⟩
  have hb : Below w2.heap.size w2 w3 := by rw [← hW]; exact (Below.refl _ _).alloc (Nat.le_refl _) _
  have X : Hid (Own4 w3 ob 0 A' L.length c' F 30) := by rw [← hW, ← hob]; exact hid_of (Own4.newT _ _)
  have BX := hid_of (BX.out.grow hb)
  have Y := hid_of (Y.out.grow hb)
  have I := hid_of (I.out.below hb)
  have A3 := hid_of (A2.out.below hb)
  have hbw := hbw.trans (hb.mono hbw.size)
  have ho : ob < w3.heap.size := by rw [← hW, ← hob]; simp
  have hs : w.heap.size + 2 ≤ w3.heap.size := by have := hb.size; omega
  have hob1 : w1.heap.size ≤ ob := by omega
  have hob2 : w.heap.size + 2 ≤ w1.heap.size := by omega
  rw [hob] at I ⊢
  clear hW A2 hb hob hs1
  obtain ⟨⟨z0, z1, z2, z3⟩, zf⟩ := BX.out
  obtain ⟨⟨x0, x1, x2, x3⟩, xf⟩ := X.out
  have A4 := A3
  go_wp2_with (first
    | (go_at_call 77; (with_reducible refine (rend_v HQ.out HX.out _ A4.out).mono ?_); rintro e' wn ⟨rfl, hb⟩; have A4 := hid_of (A4.out.below hb); have BX := hid_of (BX.out.grow hb); have Y := hid_of (Y.out.grow hb); have X := hid_of (X.out.grow hb); have I := hid_of (I.out.below hb); have hbw := hbw.trans (hb.mono hbw.size); have hs := (show w.heap.size + 2 ≤ _ from Nat.le_trans hs hb.size); have ho := Nat.lt_of_lt_of_le ho hb.size; clear z0 z1 z2 z3 zf x0 x1 x2 x3 xf hb; obtain ⟨⟨z0, z1, z2, z3⟩, zf⟩ := BX.out; obtain ⟨⟨x0, x1, x2, x3⟩, xf⟩ := X.out)
    | (go_at_call 78; (with_reducible refine (conf_v HB.out HX.out (by omega) hd1000 _ A4.out).mono ?_); rintro e' wn ⟨rfl, hb⟩; have A4 := hid_of (A4.out.below hb); have BX := hid_of (BX.out.grow hb); have Y := hid_of (Y.out.grow hb); have X := hid_of (X.out.grow hb); have I := hid_of (I.out.below hb); have hbw := hbw.trans (hb.mono hbw.size); have hs := (show w.heap.size + 2 ≤ _ from Nat.le_trans hs hb.size); have ho := Nat.lt_of_lt_of_le ho hb.size; clear z0 z1 z2 z3 zf x0 x1 x2 x3 xf hb; obtain ⟨⟨z0, z1, z2, z3⟩, zf⟩ := BX.out; obtain ⟨⟨x0, x1, x2, x3⟩, xf⟩ := X.out))
  generalize hW : World.setCell _ _ _ = w5
  have X5 : Hid (Own4 w5 ob 0 A' L.length c' (D.size : Int) 30) := by rw [← hW]; exact hid_of (X.out.set2 _)
  have Y5 : Hid (Own4 w5 (w.heap.size + 1) 0 none 0 0 0 0) := by rw [← hW]; exact hid_of (Y.out.other (by dsimp only; omega) _)
  have I5 : Hid (PcIn w5 w1.heap.size ob A' L.length c' (pcs D L)) := by rw [← hW]; exact hid_of (I.out.touch ((Touch.refl _ ob (ob + 1)).setCell (Nat.le_refl _) (Nat.lt_succ_self _) _) (.inl (Nat.le_refl _)))
  have hb5 : Below w.heap.size w w5 := by rw [← hW]; exact hbw.setCell (by dsimp only; omega) _
  have hs5 : w.heap.size + 2 ≤ w5.heap.size ∧ ob < w5.heap.size := by rw [← hW]; simp [World.setCell]; omega
  clear hW X Y I hbw hs ho
  clear BX A3 A4 z0 z1 z2 z3 zf x0 x1 x2 x3 xf
  obtain ⟨hs5, ho5⟩ := hs5
  obtain ⟨⟨x0, x1, x2, x3⟩, xf⟩ := X5.out
  have u1 := fun y => Up.cell x1 y
  have hwl : IntKind.i64.wrap (lo + 0) = lo := by rw [Int.add_zero]; exact IntWalk.i64_in _ (by omega)
  have hwl' : IntKind.i64.wrap lo = lo := IntWalk.i64_in _ (by omega)
  have hdd : dat.extract 0 dat.size = dat := ByteArray.extract_zero_size
  have z00 : (0 : Int) ≤ (dat.size : Int) := by omega
  refine wp_region_up_tail 9 (by kernel_rfl) (by kernel_rfl) ?_
  simp only [List.take_succ_cons, List.take_zero, List.drop_succ_cons, List.drop_zero]
  repeat (quiet_step (fail))
  refine wpQuiet_nil ?_
  intro w6 hb
  have X6 := hid_of (X5.out.grow hb)
  have Y6 := hid_of (Y5.out.grow hb)
  have I6 := hid_of (I5.out.below hb)
  have hb6 := hb5.trans (hb.mono hb5.size)
  have hs6 := hb.size
  clear u1 x0 x1 x2 x3 xf X5 Y5 I5 hb5 hb
  obtain ⟨⟨x0, x1, x2, x3⟩, xf⟩ := X6.out
  have HDT : Hid (dat = D.extract lo.toNat (((D.size : Int) - 1) + 1).toNat) := hid_of (by rw [show ((D.size : Int) - 1) + 1 = (D.size : Int) from by omega]; exact HDAT.out)
  go_wp2_with (go_at_call 79; (with_reducible refine (mp_any HX.out h0 (by omega) (by omega) HDT.out w6 I6.out.reads HN.out hc').mono ?_); rintro e' w7 ⟨A7, c7, rfl, hI7, hb7⟩; have X7 := hid_of (X6.out.grow hb7); have Y7 := hid_of (Y6.out.grow hb7); have I7 := hid_of hI7; have hb8 := hb6.trans (hb7.mono hb6.size); have hs7 := hb7.size; clear x0 x1 x2 x3 xf hI7 hb7; obtain ⟨⟨x0, x1, x2, x3⟩, xf⟩ := X7.out; obtain ⟨⟨y0, y1, y2, y3⟩, yf⟩ := Y7.out)
  try simp only [Exit.inBlock, Exit.then]
  refine bodyPost_ret (results_rv rfl rfl rfl ((Y7.out.other (by dsimp only; omega) _).setAll _ _ _ _ _ _)) rfl ?_
  refine ⟨A7, c7, by rw [← hM]; rfl, ?_, ?_⟩
  · rw [← hM]
    refine PcIn.touch_all (Lo := w6.heap.size) (B := w.heap.size + 1) (S := ob + 1) I7.out ?_ (by omega) (by omega)
    repeat refine Touch.setCell ?_ (by dsimp only; omega) (by dsimp only; omega) _
    exact Touch.refl w7 (w.heap.size + 1) (ob + 1)
  · repeat refine Below.setCell ?_ (by dsimp only; omega) _
    exact hb8

set_option linter.unusedVariables false in
set_option maxRecDepth 100000 in
set_option maxHeartbeats 4000000 in
theorem put_fse {D dat : ByteArray} {L : List Rg} {lo e F : Int} {A : Option Addr} {c : Nat} (hx : Rx D L) (hF0 : F ≤ (D.size : Int)) (hF1 : (D.size : Int) ≤ F) (h0 : 0 ≤ lo) (h1 : lo ≤ (D.size : Int)) (h1b : (D.size : Int) ≤ lo) (h2 : (D.size : Int) ≤ D.size) (h12 : (D.size : Int) ≤ lo + 12) (hdat : dat = D.extract lo.toNat ((D.size : Int)).toNat) (w : World) (h : PcAt w A L.length (pcs D L)) (hnone : A = none → c = 0) :
    Calls Try.prog 42 #[.agg #[.int .i64 0, .slice A L.length c, .int .i64 F, .int .i64 30], .int .i64 lo, .string dat, .bool true] w (GotRv w D L (D.size : Int)) := by
  have hlen := hx.len
  have hfew := hx.few
  have hend := endOf_le hx
  have HX := hid_of hx
  have hds : (dat.size : Int) = (D.size : Int) - lo := by rw [hdat, ByteArray.size_extract]; omega
  have HB : Hid (∀ (i : Nat) (h : i < dat.size), bAt D (lo + (i : Int)) = ((dat[i]'h).toNat : Int)) := by
    unfold Hid
    subst hdat
    intro i h
    rw [bAt_ext h, show ((lo.toNat + i : Nat) : Int) = lo + i from by omega]
  obtain ⟨q, hq⟩ : ∃ q, endOf 0 L = q := ⟨_, rfl⟩
  rw [hq] at hend
  have HQ := hid_of hq
  obtain ⟨s, hs'⟩ : ∃ s, dat.size = s := ⟨_, rfl⟩
  have HV1 : Hid (decide (0 ≤ lo ∧ lo ≤ 30) = true) := hid_of (decide_eq_true (by omega))
  have hd1000 : dat.size ≤ 1000 := by omega
  have hwe : IntKind.i64.wrap (lo + (dat.size : Int)) = (D.size : Int) := by rw [show lo + (dat.size : Int) = (D.size : Int) from by omega]; exact IntWalk.i64_in _ (by omega)
  have c12 : decide (12 < (dat.size : Int)) = false := decide_eq_false (by omega)
  have c30 : decide (30 < (D.size : Int)) = false := decide_eq_false (by omega)
  have c30' : ¬ (30 < (D.size : Int)) := by omega
  have cq : decide ((D.size : Int) < q) = false := decide_eq_false (by omega)
  have HVF : Hid (F = -1 ∨ (endOf 0 L ≤ F ∧ F ≤ 30)) := hid_of (.inr ⟨by omega, by omega⟩)
  have HRL : Hid (∀ r, r ∈ L → (0 : Int) ≤ r.lo) := hid_of fun r hr => (hx.b r hr).1
  have f1 : (F == -1) = false := by rw [beq_eq_false_iff_ne]; omega
  have f2 : (F == (D.size : Int)) = true := by rw [beq_iff_eq]; omega
  have cl : decide (0 < (dat.size : Int)) = false := decide_eq_false (by omega)
  have cl3 : ¬ (0 < dat.size) := by omega
  have hwn : IntKind.i64.wrap (-lo) = -lo := IntWalk.i64_in _ (by omega)
  have hwn' : IntKind.i64.wrap (0 - lo) = -lo := by rw [show 0 - lo = -lo from by omega]; exact hwn
  have cn : decide (0 < -lo) = false := decide_eq_false (by omega)
  have cn' : ¬ (lo < 0) := by omega
  have HDAT := hid_of hdat
  have HDS := hid_of hds
  have hBX : Hid (Own4 ((w.alloc (.cells #[.int .i64 0, .slice A L.length c, .int .i64 F, .int .i64 30] 58)).alloc (.cells #[.int .i64 0, .slice none 0 0, .int .i64 0, .int .i64 0] 58)) w.heap.size 0 A L.length c F 30) := hid_of ((Own4.newT _ _).alloc _)
  have hY : Hid (Own4 ((w.alloc (.cells #[.int .i64 0, .slice A L.length c, .int .i64 F, .int .i64 30] 58)).alloc (.cells #[.int .i64 0, .slice none 0 0, .int .i64 0, .int .i64 0] 58)) (w.heap.size + 1) 0 none 0 0 0 0) := hid_of (by have := Own4.newT (R := 0) (A := none) (n := 0) (c := 0) (F := 0) (l := 0) (w.alloc (.cells #[.int .i64 0, .slice A L.length c, .int .i64 F, .int .i64 30] 58)) 58; simpa using this)
  have hA := (h.alloc (.cells #[.int .i64 0, .slice A L.length c, .int .i64 F, .int .i64 30] 58)).alloc (.cells #[.int .i64 0, .slice none 0 0, .int .i64 0, .int .i64 0] 58)
  have hb0 : Below w.heap.size w ((w.alloc (.cells #[.int .i64 0, .slice A L.length c, .int .i64 F, .int .i64 30] 58)).alloc (.cells #[.int .i64 0, .slice none 0 0, .int .i64 0, .int .i64 0] 58)) := ((Below.refl _ w).alloc (Nat.le_refl _) _).alloc (by simp) _
  have hs0 : w.heap.size + 2 ≤ ((w.alloc (.cells #[.int .i64 0, .slice A L.length c, .int .i64 F, .int .i64 30] 58)).alloc (.cells #[.int .i64 0, .slice none 0 0, .int .i64 0, .int .i64 0] 58)).heap.size := by simp
  clear hx hq hdat hds hs' hend h
  go_enter Try.func42, Try.ntmps42
  go_wp2_with fail
  generalize hW : World.alloc (World.alloc w _) _ = W0 at *
  clear hW
  with_reducible refine (rvalid_v HX.out ⟨by omega, by omega⟩ HRL.out (HVF.out) W0 hA).mono ?_
  rintro e' w1 ⟨rfl, hb⟩
  have BX := hid_of (hBX.out.grow hb)
  have Y := hid_of (hY.out.grow hb)
  have A1 := hid_of (hA.below hb)
  have hbw := hb0.trans (hb.mono hb0.size)
  have hs : w.heap.size + 2 ≤ w1.heap.size := by have := hb.size; omega
  clear hBX hY hA hb0 hs0 hb
  obtain ⟨⟨z0, z1, z2, z3⟩, zf⟩ := BX.out
  go_wp2_with (go_at_call 55; (with_reducible refine (within_v HV1.out _).mono ?_); rintro e w9 ⟨rfl, rfl⟩)
  with_reducible refine (copy_r w1 A1.out hnone (by omega)).mono ?_
  rintro e' w2 ⟨A', c', rfl, hI, hb⟩
  have hs1 := hb.size
  have BX := hid_of (BX.out.grow hb)
  have Y := hid_of (Y.out.grow hb)
  have I := hid_of hI
  have hn' : A' = none → c' = 0 := fun e => by
    rcases hI.2.2 with ⟨_, e2⟩ | ⟨_, g, e2, _⟩
    · exact e2
    · rw [e] at e2; cases e2
  have HN := hid_of hn'
  have hc' : L.length ≤ c' := hI.cap.1
  have A2 := hid_of (A1.out.below hb)
  have hbw := hbw.trans (hb.mono hbw.size)
  clear hI hb A1 z0 z1 z2 z3 zf hn'
  go_upto_region 4 with (fail)
  generalize hW : World.alloc w2 _ = w3
  obtain ⟨ob, hob⟩ : ∃ b, w2.heap.size = b := ⟨_, rfl⟩
  have hb : Below w2.heap.size w2 w3 := by rw [← hW]; exact (Below.refl _ _).alloc (Nat.le_refl _) _
  have X : Hid (Own4 w3 ob 0 A' L.length c' F 30) := by rw [← hW, ← hob]; exact hid_of (Own4.newT _ _)
  have BX := hid_of (BX.out.grow hb)
  have Y := hid_of (Y.out.grow hb)
  have I := hid_of (I.out.below hb)
  have A3 := hid_of (A2.out.below hb)
  have hbw := hbw.trans (hb.mono hbw.size)
  have ho : ob < w3.heap.size := by rw [← hW, ← hob]; simp
  have hs : w.heap.size + 2 ≤ w3.heap.size := by have := hb.size; omega
  have hob1 : w1.heap.size ≤ ob := by omega
  have hob2 : w.heap.size + 2 ≤ w1.heap.size := by omega
  rw [hob] at I ⊢
  clear hW A2 hb hob hs1
  obtain ⟨⟨z0, z1, z2, z3⟩, zf⟩ := BX.out
  obtain ⟨⟨x0, x1, x2, x3⟩, xf⟩ := X.out
  have A4 := A3
  go_upto_region 17 with (first
    | (go_at_call 77; (with_reducible refine (rend_v HQ.out HX.out _ A4.out).mono ?_); rintro e' wn ⟨rfl, hb⟩; have A4 := hid_of (A4.out.below hb); have BX := hid_of (BX.out.grow hb); have Y := hid_of (Y.out.grow hb); have X := hid_of (X.out.grow hb); have I := hid_of (I.out.below hb); have hbw := hbw.trans (hb.mono hbw.size); have hs := (show w.heap.size + 2 ≤ _ from Nat.le_trans hs hb.size); have ho := Nat.lt_of_lt_of_le ho hb.size; clear z0 z1 z2 z3 zf x0 x1 x2 x3 xf hb; obtain ⟨⟨z0, z1, z2, z3⟩, zf⟩ := BX.out; obtain ⟨⟨x0, x1, x2, x3⟩, xf⟩ := X.out)
    | (go_at_call 78; (with_reducible refine (conf_v HB.out HX.out (by omega) hd1000 _ A4.out).mono ?_); rintro e' wn ⟨rfl, hb⟩; have A4 := hid_of (A4.out.below hb); have BX := hid_of (BX.out.grow hb); have Y := hid_of (Y.out.grow hb); have X := hid_of (X.out.grow hb); have I := hid_of (I.out.below hb); have hbw := hbw.trans (hb.mono hbw.size); have hs := (show w.heap.size + 2 ≤ _ from Nat.le_trans hs hb.size); have ho := Nat.lt_of_lt_of_le ho hb.size; clear z0 z1 z2 z3 zf x0 x1 x2 x3 xf hb; obtain ⟨⟨z0, z1, z2, z3⟩, zf⟩ := BX.out; obtain ⟨⟨x0, x1, x2, x3⟩, xf⟩ := X.out))
  generalize hW : World.setCell _ _ _ = w5
  have X5 : Hid (Own4 w5 ob 0 A' L.length c' (D.size : Int) 30) := by rw [← hW]; exact hid_of (X.out.set2 _)
  have Y5 : Hid (Own4 w5 (w.heap.size + 1) 0 none 0 0 0 0) := by rw [← hW]; exact hid_of (Y.out.other (by dsimp only; omega) _)
  have I5 : Hid (PcIn w5 w1.heap.size ob A' L.length c' (pcs D L)) := by rw [← hW]; exact hid_of (I.out.touch ((Touch.refl _ ob (ob + 1)).setCell (Nat.le_refl _) (Nat.lt_succ_self _) _) (.inl (Nat.le_refl _)))
  have hb5 : Below w.heap.size w w5 := by rw [← hW]; exact hbw.setCell (by dsimp only; omega) _
  have hs5 : w.heap.size + 2 ≤ w5.heap.size ∧ ob < w5.heap.size := by rw [← hW]; simp [World.setCell]; omega
  clear hW X Y I hbw hs ho
  clear BX A3 A4 z0 z1 z2 z3 zf x0 x1 x2 x3 xf
  obtain ⟨hs5, ho5⟩ := hs5
  obtain ⟨⟨x0, x1, x2, x3⟩, xf⟩ := X5.out
  obtain ⟨⟨y0, y1, y2, y3⟩, yf⟩ := Y5.out
  go_wp2_with fail
  try simp only [Exit.inBlock, Exit.then]
  refine bodyPost_ret (results_rv rfl rfl rfl (Y5.out.setAll _ _ _ _ _ _)) rfl ?_
  refine ⟨A', c', rfl, ?_, ?_⟩
  · have t := touch4 w5 (w.heap.size + 1) (.int .i64 0) (.slice A' L.length c') (.int .i64 (D.size : Int)) (.int .i64 30)
    exact (I5.out.touch t (.inr (by omega))).mono (by omega) (Nat.le_trans (Nat.le_of_lt ho5) t.size)
  · repeat refine Below.setCell ?_ (by dsimp only; omega) _
    exact hb5

/-- Data of the text is received: the stretch from lo on, ahead of e. -/
theorem put_v {D dat : ByteArray} {L M : List Rg} {lo e F G : Int} {fin : Bool} {A : Option Addr} {c : Nat} (hx : Rx D L) (hF : F = -1 ∨ F = D.size) (h0 : 0 ≤ lo) (h1 : lo ≤ e) (h2 : e ≤ D.size) (h12 : e ≤ lo + 12) (hfin : fin = true → e = D.size) (hdat : dat = D.extract lo.toNat e.toNat)
    (hM : (if lo < e then add L lo (e - 1) else L) = M) (hG : (if fin = true then (D.size : Int) else F) = G) (w : World) (h : PcAt w A L.length (pcs D L)) (hnone : A = none → c = 0) :
    Calls Try.prog 42 #[.agg #[.int .i64 0, .slice A L.length c, .int .i64 F, .int .i64 30], .int .i64 lo, .string dat, .bool fin] w (GotRv w D M G) := by
  cases fin with
  | false =>
    rw [if_neg (by decide)] at hG
    subst hG
    by_cases hlt : lo < e
    · rw [if_pos hlt] at hM
      subst hM
      rcases hF with rfl | hF
      · exact put_omp (F := 0) hx h0 hlt h2 h12 hdat rfl w h hnone
      · exact put_osp hx (by omega) (by omega) h0 hlt h2 h12 hdat rfl w h hnone
    · rw [if_neg hlt] at hM
      subst hM
      rcases hF with rfl | hF
      · exact put_ome (F := 0) hx h0 h1 (by omega) h2 h12 hdat w h hnone
      · exact put_ose hx (by omega) (by omega) h0 h1 (by omega) h2 h12 hdat w h hnone
  | true =>
    rw [if_pos rfl] at hG
    obtain rfl := hfin rfl
    subst hG
    by_cases hlt : lo < D.size
    · rw [if_pos hlt] at hM
      subst hM
      rcases hF with rfl | hF
      · exact put_fmp (e := 0) (F := 0) hx h0 hlt h2 h12 hdat rfl w h hnone
      · exact put_fsp (e := 0) hx (by omega) (by omega) h0 hlt h2 h12 hdat rfl w h hnone
    · rw [if_neg hlt] at hM
      subst hM
      rcases hF with rfl | hF
      · exact put_fme (e := 0) (F := 0) hx h0 h1 (by omega) h2 h12 hdat w h hnone
      · exact put_fse (e := 0) hx (by omega) (by omega) h0 h1 (by omega) h2 h12 hdat w h hnone


end Go.Proofs.Ytmkmaeblnnfheaa
