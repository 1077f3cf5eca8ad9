/- The program's SendNext: new positions of a finished stream. -/
import Derived.Test.YtmkmaeblnnfheaaSndR
namespace Go.Proofs.Ytmkmaeblnnfheaa
open Go.RowKit
attribute [local irreducible] Go.wpQuiet

set_option linter.unusedVariables false in
set_option maxRecDepth 100000 in
set_option maxHeartbeats 40000000 in
theorem snext_i_new2 (d : ByteArray) (f : Bool) (l n : Int) (LA LB : List Rg) (A : Option Addr) (ca : Nat) (B : Option Addr) (cb : Nat) (k : Int) (w : World) (hA : RngAt w A LA.length LA) (hB : RngAt w B LB.length LB) (eA : A = none → ca = 0) (eB : B = none → cb = 0) (hn : LA.length ≤ 2000000) (hn' : LB.length ≤ 2000000) (HV : Hid (okS ⟨d, f, l, n, LA, LB⟩ = true)) (HC : Hid (decide (1 ≤ k ∧ k ≤ 12) = true)) (hL : LB = []) (pos : Int) (HP : Hid (Sd.pos ⟨d, f, l, n, LA, LB⟩ = pos)) (st st2 m e : Int) (hst : (if (d.size : Int) < pos then (d.size : Int) else pos) = st) (hst2 : (if l < st then l else st) = st2) (hm : (if n + k < st2 then n + k else st2) = m) (he : (if n < m then m else n) = e) (h1 : (pos - 1 == (d.size : Int)) = true) (h2 : (e == (d.size : Int)) = false) (h4 : (e == n) = false) (ls : Int) (hls : Pt.last ⟨n, d.extract n.toNat e.toNat, false⟩ = ls) :
    Calls Try.prog 23 #[.agg #[.string d, .bool f, .int .i64 l, .int .i64 n, .slice A LA.length ca, .slice B LB.length cb], .int .i64 k] w (GotNext w (⟨d, f, l, ls + 1, LA, LB⟩, ⟨n, d.extract n.toNat e.toNat, false⟩, true)) := by
  have hk := of_decide_eq_true HC.out
  have hsv := hid_of (okS_iff.1 HV.out)
  have hsz30 : d.size ≤ 30 := hsv.out.len
  have hl0 : 0 ≤ l ∧ l ≤ 30 := ⟨hsv.out.l0, hsv.out.l1⟩
  have hn0 : 0 ≤ n ∧ n ≤ 31 := ⟨hsv.out.n0, hsv.out.n31⟩
  have hnp0 : n ≤ pos := by have := hsv.out.n1; rw [HP.out] at this; exact this
  have hposb : (d.size : Int) ≤ pos ∧ pos ≤ (d.size : Int) + 1 := by have e1 : (d.size : Int) ≤ Sd.pos ⟨d, f, l, n, LA, LB⟩ ∧ Sd.pos ⟨d, f, l, n, LA, LB⟩ ≤ (d.size : Int) + 1 := pos_le _; rw [HP.out] at e1; exact e1
  have heb : n ≤ e ∧ (e ≤ (d.size : Int) ∨ e = n) := by
    have e1 : st = min (d.size : Int) pos := by rw [← hst]; split <;> omega
    have e2 : st2 = min l st := by rw [← hst2]; split <;> omega
    have e3 : m = min (n + k) st2 := by rw [← hm]; split <;> omega
    have e4 : e = max n m := by rw [← he]; split <;> omega
    omega
  obtain ⟨heb0, heb1⟩ := heb
  have hnp : ¬ 0 < LB.length := by rw [hL]; simp
  clear hL
  have hed : e ≤ (d.size : Int) := by have := beq_eq_false_iff_ne.1 h4; omega
  have hnd : n ≤ (d.size : Int) := by omega
  have hn00 : (0 : Int) ≤ n := by omega
  have he0 : (0 : Int) ≤ e := by omega
  clear heb1
  obtain ⟨x, hx⟩ : ∃ x, d.extract n.toNat e.toNat = x := ⟨_, rfl⟩
  have hxs : x.size ≤ 30 := by rw [← hx, ByteArray.size_extract]; omega
  have hlsb : -1 ≤ ls ∧ ls ≤ 100 := by
    rw [hx] at hls
    rw [← hls]
    unfold Pt.last
    dsimp only
    split <;> omega
  have HX := hid_of hx
  rw [hx] at hls ⊢
  have HLS := hid_of hls
  clear hls
  have hwp : IntKind.i64.wrap (pos - 1) = pos - 1 := IntWalk.i64_in _ (by omega)
  have z := ((Own6.new (d := d) (f := f) (l := l) (n := n) (A := A) (na := LA.length) (ca := ca) (B := B) (nb := LB.length) (cb := cb) w).alloc (.cells #[.string (⟨#[]⟩ : ByteArray), .bool false, .int .i64 0, .int .i64 0, .slice none 0 0, .slice none 0 0] 25)).alloc (.cells #[.int .i64 0, .string (⟨#[]⟩ : ByteArray), .bool false] 27)
  have r := (Own6.new (d := (⟨#[]⟩ : ByteArray)) (f := false) (l := 0) (n := 0) (A := none) (na := 0) (ca := 0) (B := none) (nb := 0) (cb := 0) (w.alloc (.cells #[.string d, .bool f, .int .i64 l, .int .i64 n, .slice A LA.length ca, .slice B LB.length cb] 25))).alloc (.cells #[.int .i64 0, .string (⟨#[]⟩ : ByteArray), .bool false] 27)
  have q := Own3.new ((w.alloc (.cells #[.string d, .bool f, .int .i64 l, .int .i64 n, .slice A LA.length ca, .slice B LB.length cb] 25)).alloc (.cells #[.string (⟨#[]⟩ : ByteArray), .bool false, .int .i64 0, .int .i64 0, .slice none 0 0, .slice none 0 0] 25)) 0 (⟨#[]⟩ : ByteArray) false
  rw [show (w.alloc (.cells #[.string d, .bool f, .int .i64 l, .int .i64 n, .slice A LA.length ca, .slice B LB.length cb] 25)).heap.size = w.heap.size + 1 from by simp] at r
  rw [show ((w.alloc (.cells #[.string d, .bool f, .int .i64 l, .int .i64 n, .slice A LA.length ca, .slice B LB.length cb] 25)).alloc (.cells #[.string (⟨#[]⟩ : ByteArray), .bool false, .int .i64 0, .int .i64 0, .slice none 0 0, .slice none 0 0] 25)).heap.size = w.heap.size + 1 + 1 from by simp] at q
  have hW0 : Below w.heap.size w _ := (((Below.refl _ w).alloc (Nat.le_refl _) (.cells #[.string d, .bool f, .int .i64 l, .int .i64 n, .slice A LA.length ca, .slice B LB.length cb] 25)).alloc (by simp) (.cells #[.string (⟨#[]⟩ : ByteArray), .bool false, .int .i64 0, .int .i64 0, .slice none 0 0, .slice none 0 0] 25)).alloc (by simp; omega) (.cells #[.int .i64 0, .string (⟨#[]⟩ : ByteArray), .bool false] 27)
  have hsz : (((w.alloc (.cells #[.string d, .bool f, .int .i64 l, .int .i64 n, .slice A LA.length ca, .slice B LB.length cb] 25)).alloc (.cells #[.string (⟨#[]⟩ : ByteArray), .bool false, .int .i64 0, .int .i64 0, .slice none 0 0, .slice none 0 0] 25)).alloc (.cells #[.int .i64 0, .string (⟨#[]⟩ : ByteArray), .bool false] 27)).heap.size = w.heap.size + 1 + 1 + 1 := by simp
  go_enter Try.func23, Try.ntmps23
  go_wp2_with (first
    | (go_at_call 19; (with_reducible refine (sv_v_i HV.out _ (hA.below hW0) (hB.below hW0) hn hn').mono ?_); rintro e w1 ⟨rfl, hb1⟩; have z1 := z.under hb1 (by omega); have r1 := r.under hb1 (by omega); have q1 := q.under hb1 (by omega); have hw1 := hW0.trans (hb1.mono hW0.size); have hs1 : w.heap.size + 1 + 1 + 1 ≤ w1.heap.size := (by have := hb1.size; omega); have HZ := hid_of z1; have HR := hid_of r1; have HQ := hid_of q1; obtain ⟨⟨z0, z1, z2, z3, z4, z5⟩, zf⟩ := z1; obtain ⟨⟨r0, r1, r2, r3, r4, r5⟩, rf⟩ := r1; obtain ⟨⟨q0, q1, q2⟩, qf⟩ := q1; clear z r q hb1)
    | (go_at_call 55; (with_reducible refine (within_v HC.out _).mono ?_); rintro e w9 ⟨rfl, rfl⟩)
    | (go_at_call 47; (with_reducible refine (copy_i d f l n LA LB A ca B cb _ (hA.below hw1) (hB.below hw1) eA eB (by omega) (by omega)).mono ?_); rintro e w2 ⟨⟨_, rfl, A1, c1, B1, c2, rfl, hI1, hJ1, hap⟩, hb2⟩; have HZ2 := hid_of (HZ.out.under hb2 (by omega)); have HR2 := hid_of (HR.out.under hb2 (by omega)); have HQ2 := hid_of (HQ.out.under hb2 (by omega)); have hw2 := hw1.trans (hb2.mono hw1.size); have hs2 := hb2.size; clear z0 z1 z2 z3 z4 z5 zf r0 r1 r2 r3 r4 r5 rf q0 q1 q2 qf hb2))
  generalize hW8 : World.alloc w2 _ = W8
  have hz8 : Own6 W8 w.heap.size d f l n A LA.length ca B LB.length cb := by rw [← hW8]; exact HZ2.out.alloc _
  have hr8 : Own6 W8 (w.heap.size + 1) (⟨#[]⟩ : ByteArray) false 0 0 none 0 0 none 0 0 := by rw [← hW8]; exact HR2.out.alloc _
  have hq8 : Own3 W8 (w.heap.size + 1 + 1) 0 (⟨#[]⟩ : ByteArray) false := by rw [← hW8]; exact HQ2.out.alloc _
  have ho8 : Own6 W8 w2.heap.size d f l n A1 LA.length c1 B1 LB.length c2 := by rw [← hW8]; exact Own6.new w2
  have hw8 : Below w.heap.size w W8 := by rw [← hW8]; exact ba hw2 _
  have hs8 : W8.heap.size = w2.heap.size + 1 := by rw [← hW8]; simp
  have hI8 : RngIn W8 w1.heap.size w2.heap.size A1 LA.length c1 LA := by rw [← hW8]; exact hI1.alloc _
  have hJ8 : RngIn W8 w1.heap.size w2.heap.size B1 LB.length c2 LB := by rw [← hW8]; exact hJ1.alloc _
  clear hW8 hI1 hJ1
  have u0 := fun y : Up W8 => y.cell hz8.1.1
  have u1 := fun y : Up W8 => y.cell hz8.1.2.1
  have u2 := fun y : Up W8 => y.cell hz8.1.2.2.1
  have u3 := fun y : Up W8 => y.cell hz8.1.2.2.2.1
  have u4 := fun y : Up W8 => y.cell hz8.1.2.2.2.2.1
  have u5 := fun y : Up W8 => y.cell hz8.1.2.2.2.2.2
  refine wp_region_up (by kernel_rfl) (by kernel_rfl) ?_
  repeat (quiet_step ((go_at_call 56; with_reducible exact up_box fun w' => pos_v_impl HP.out w' (by omega))))
  refine wpQuiet_nil ?_
  intro w3 hb3
  clear u0 u1 u2 u3 u4 u5
  have HZ3 := hid_of (hz8.under hb3 (by omega))
  have HR3 := hid_of (hr8.under hb3 (by omega))
  have HQ3 := hid_of (hq8.under hb3 (by omega))
  have HO3 := hid_of (ho8.under hb3 (by omega))
  have hI3 := hI8.below hb3
  have hJ3 := hJ8.below hb3
  have hw3 := hw8.trans (hb3.mono hw8.size)
  have hs3 := hb3.size
  clear hz8 hr8 hq8 ho8 hI8 hJ8 hb3 hw8
  obtain ⟨⟨z0, z1, z2, z3, z4, z5⟩, zf⟩ := HZ3.out
  have lt3 : w.heap.size < w3.heap.size := by omega
  obtain ⟨hls0, hls1⟩ := hlsb
  go_wp2_with (go_at_call 49; (with_reducible refine (last_v_i HLS.out _ ⟨by omega, by omega⟩ (by omega)).mono ?_); rintro e' w5 ⟨rfl, hx5⟩; have HX5 := hid_of hx5; have hs5 : w3.heap.size < w5.heap.size := (by obtain ⟨y, rfl⟩ := HX5.out; simp; omega); have HR5 : Hid (Own6 w5 (w.heap.size + 1) (⟨#[]⟩ : ByteArray) false 0 0 none 0 0 none 0 0) := (by obtain ⟨y, rfl⟩ := HX5.out; exact hid_of ((HR3.out.alloc _).alloc _)); have HQ5 : Hid (Own3 w5 (w.heap.size + 1 + 1) 0 (⟨#[]⟩ : ByteArray) false) := (by obtain ⟨y, rfl⟩ := HX5.out; exact hid_of ((HQ3.out.alloc _).alloc _)); have HO5 : Hid (Own6 w5 w2.heap.size d f l n A1 LA.length c1 B1 LB.length c2) := (by obtain ⟨y, rfl⟩ := HX5.out; exact hid_of ((HO3.out.alloc _).alloc _)); have HP5 : Hid (Own3 w5 w3.heap.size n x false) := (by obtain ⟨y, rfl⟩ := HX5.out; exact hid_of ((Own3.new w3 n x false).alloc _)); have hw5 : Below w.heap.size w w5 := (by obtain ⟨y, rfl⟩ := HX5.out; exact ba (ba hw3 _) _); have hI5 : RngIn w5 w1.heap.size w2.heap.size A1 LA.length c1 LA := (by obtain ⟨y, rfl⟩ := HX5.out; exact (hI3.alloc _).alloc _); have hJ5 : RngIn w5 w1.heap.size w2.heap.size B1 LB.length c2 LB := (by obtain ⟨y, rfl⟩ := HX5.out; exact (hJ3.alloc _).alloc _); have o3 := HO5.out.1.2.2.2.1; have of := HO5.out.2; clear hx5 HX5)
  all_goals
    generalize hW10 : World.setCell w5 _ _ = W10
    have hr10 : Own6 W10 (w.heap.size + 1) (⟨#[]⟩ : ByteArray) false 0 0 none 0 0 none 0 0 := by rw [← hW10]; exact HR5.out.other (by dsimp only; omega) _
    have hq10 : Own3 W10 (w.heap.size + 1 + 1) 0 (⟨#[]⟩ : ByteArray) false := by rw [← hW10]; exact HQ5.out.other (by dsimp only; omega) _
    have ho10 : Own6 W10 w2.heap.size d f l (ls + 1) A1 LA.length c1 B1 LB.length c2 := by rw [← hW10]; exact HO5.out.set3 _
    have hp10 : Own3 W10 w3.heap.size n x false := by rw [← hW10]; exact HP5.out.other (by dsimp only; omega) _
    have hw10 : Below w.heap.size w W10 := by rw [← hW10]; exact hw5.setCell (by dsimp only; omega) _
    have hs10 : W10.heap.size = w5.heap.size := by rw [← hW10]; simp [World.setCell]
    have hI10 : RngIn W10 w1.heap.size w2.heap.size A1 LA.length c1 LA := by rw [← hW10]; exact hI5.touch (((Touch.refl w5 w2.heap.size (w2.heap.size + 1)).setCell (Nat.le_refl _) (Nat.lt_succ_self _) _)) (.inl (Nat.le_refl _))
    have hJ10 : RngIn W10 w1.heap.size w2.heap.size B1 LB.length c2 LB := by rw [← hW10]; exact hJ5.touch (((Touch.refl w5 w2.heap.size (w2.heap.size + 1)).setCell (Nat.le_refl _) (Nat.lt_succ_self _) _)) (.inl (Nat.le_refl _))
    clear hW10 o3 of HR5 HQ5 HO5 HP5 hI5 hJ5 hw5 z0 z1 z2 z3 z4 z5 zf HZ3 HR3 HQ3 HO3 hI3 hJ3 hw3
    have HR10 := hid_of hr10
    have HQ10 := hid_of hq10
    obtain ⟨⟨r0, r1, r2, r3, r4, r5⟩, rf⟩ := hr10
    obtain ⟨⟨q0, q1, q2⟩, qf⟩ := hq10
    obtain ⟨⟨o0, o1, o2, o3, o4, o5⟩, of⟩ := ho10
    obtain ⟨⟨p0, p1, p2⟩, pf⟩ := hp10
    have hN : Ret2 w w2.heap.size w3.heap.size W10.heap.size w1.heap.size w2.heap.size w1.heap.size w2.heap.size d f l (ls + 1) LA LB A1 c1 B1 c2 n x false W10 := ⟨⟨⟨o0, o1, o2, o3, o4, o5⟩, of⟩, ⟨⟨p0, p1, p2⟩, pf⟩, ⟨_, _, _, _, _, _, _, _, _, _, HR10.out⟩, ⟨_, _, _, HQ10.out⟩, hI10, hJ10, hw10, Nat.le_refl _⟩
    have HN := hid_of hN
    clear o0 o1 o2 o3 o4 o5 of p0 p1 p2 pf r0 r1 r2 r3 r4 r5 rf q0 q1 q2 qf HR10 HQ10 hN
    have hap10 := hap
    clear hI10 hJ10 hw10
  all_goals go_wp2_with fail
  all_goals
    have inst : Nonempty (In (Ret2 w w2.heap.size w3.heap.size W10.heap.size w1.heap.size w2.heap.size w1.heap.size w2.heap.size d f l (ls + 1) LA LB A1 c1 B1 c2 n x false)) := ⟨⟨W10, HN.out⟩⟩
    have u0 := fun y : In (Ret2 w w2.heap.size w3.heap.size W10.heap.size w1.heap.size w2.heap.size w1.heap.size w2.heap.size d f l (ls + 1) LA LB A1 c1 B1 c2 n x false) => y.h.x.1.1
    have u1 := fun y : In (Ret2 w w2.heap.size w3.heap.size W10.heap.size w1.heap.size w2.heap.size w1.heap.size w2.heap.size d f l (ls + 1) LA LB A1 c1 B1 c2 n x false) => y.h.x.1.2.1
    have u2 := fun y : In (Ret2 w w2.heap.size w3.heap.size W10.heap.size w1.heap.size w2.heap.size w1.heap.size w2.heap.size d f l (ls + 1) LA LB A1 c1 B1 c2 n x false) => y.h.x.1.2.2.1
    have u3 := fun y : In (Ret2 w w2.heap.size w3.heap.size W10.heap.size w1.heap.size w2.heap.size w1.heap.size w2.heap.size d f l (ls + 1) LA LB A1 c1 B1 c2 n x false) => y.h.x.1.2.2.2.1
    have u4 := fun y : In (Ret2 w w2.heap.size w3.heap.size W10.heap.size w1.heap.size w2.heap.size w1.heap.size w2.heap.size d f l (ls + 1) LA LB A1 c1 B1 c2 n x false) => y.h.x.1.2.2.2.2.1
    have u5 := fun y : In (Ret2 w w2.heap.size w3.heap.size W10.heap.size w1.heap.size w2.heap.size w1.heap.size w2.heap.size d f l (ls + 1) LA LB A1 c1 B1 c2 n x false) => y.h.x.1.2.2.2.2.2
    have v0 := fun y : In (Ret2 w w2.heap.size w3.heap.size W10.heap.size w1.heap.size w2.heap.size w1.heap.size w2.heap.size d f l (ls + 1) LA LB A1 c1 B1 c2 n x false) => y.h.p.1.1
    have v1 := fun y : In (Ret2 w w2.heap.size w3.heap.size W10.heap.size w1.heap.size w2.heap.size w1.heap.size w2.heap.size d f l (ls + 1) LA LB A1 c1 B1 c2 n x false) => y.h.p.1.2.1
    have v2 := fun y : In (Ret2 w w2.heap.size w3.heap.size W10.heap.size w1.heap.size w2.heap.size w1.heap.size w2.heap.size d f l (ls + 1) LA LB A1 c1 B1 c2 n x false) => y.h.p.1.2.2
    refine wp_region_cls (Ret2 w w2.heap.size w3.heap.size W10.heap.size w1.heap.size w2.heap.size w1.heap.size w2.heap.size d f l (ls + 1) LA LB A1 c1 B1 c2 n x false) [([0, 1], 2), ([], 3)] [4] (by kernel_rfl) (by kernel_rfl) (fun m => HN.out.drew m) ?_
    simp only [Seq, opsAt, List.filterMap_cons, List.filterMap_nil, List.getElem?_cons_zero, List.getElem?_cons_succ]
    repeat (quiet_step (fail))
    refine wpQuiet_nil ?_
    refine ⟨_, rfl, rfl, turns_step fun Z hZ w11 h11 => ?_⟩
    clear u0 u1 u2 u3 u4 u5 v0 v1 v2 inst
    obtain ⟨_, _, _, _, _, _, _, _, _, _, hR11⟩ := h11.r
    have HR11 := hid_of hR11
    obtain ⟨⟨r0, r1, r2, r3, r4, r5⟩, rf⟩ := hR11
    go_simp
    generalize hW12 : World.setCell (World.setCell (World.setCell (World.setCell (World.setCell (World.setCell w11 _ _) _ _) _ _) _ _) _ _) _ _ = W12
    have h12 : Ret2 w w2.heap.size w3.heap.size W10.heap.size w1.heap.size w2.heap.size w1.heap.size w2.heap.size d f l (ls + 1) LA LB A1 c1 B1 c2 n x false W12 := by rw [← hW12]; exact h11.store (by omega) (by omega) _ _ _ _ _ _ _ _ _ _
    have hR12 : Own6 W12 (w.heap.size + 1) d f l (ls + 1) A1 LA.length c1 B1 LB.length c2 := by rw [← hW12]; exact HR11.out.setAll _ _ _ _ _ _ _ _ _ _
    clear hW12 r0 r1 r2 r3 r4 r5 rf HR11 h11
    have HR12 := hid_of hR12
    have H12 := hid_of h12
    clear hR12 h12
    refine hZ (fun y => (Ret2 w w2.heap.size w3.heap.size W10.heap.size w1.heap.size w2.heap.size w1.heap.size w2.heap.size d f l (ls + 1) LA LB A1 c1 B1 c2 n x false) y ∧ Own6 y (w.heap.size + 1) d f l (ls + 1) A1 LA.length c1 B1 LB.length c2) _ _ ⟨H12.out, HR12.out⟩ (fun y e => e.1) ?_
    clear hZ Z
    refine wpQuiet_nil ?_
    refine ⟨_, rfl, rfl, turns_step fun Z hZ w13 h13 => ?_⟩
    have HR13 := hid_of h13.2
    have H13 := hid_of h13.1
    clear h13 H12 HR12
    obtain ⟨_, _, _, hQ13⟩ := H13.out.q
    have HQ13 := hid_of hQ13
    obtain ⟨⟨q0, q1, q2⟩, qf⟩ := hQ13
    go_simp
    generalize hW14 : World.setCell (World.setCell (World.setCell w13 _ _) _ _) _ _ = W14
    have h14 : Ret2 w w2.heap.size w3.heap.size W10.heap.size w1.heap.size w2.heap.size w1.heap.size w2.heap.size d f l (ls + 1) LA LB A1 c1 B1 c2 n x false W14 := by rw [← hW14]; exact H13.out.store3 (by omega) (by omega) _ _ _
    have hR14 : Own6 W14 (w.heap.size + 1) d f l (ls + 1) A1 LA.length c1 B1 LB.length c2 := by rw [← hW14]; exact (((HR13.out.other (by dsimp only; omega) _).other (by dsimp only; omega) _).other (by dsimp only; omega) _)
    have hQ14 : Own3 W14 (w.heap.size + 1 + 1) n x false := by rw [← hW14]; exact HQ13.out.setAll n x false
    have HR14 := hid_of hR14
    have HQ14 := hid_of hQ14
    have H14 := hid_of h14
    clear hR14 hQ14 h14
    refine hZ (fun y => y = W14) _ _ rfl (fun y e => by rw [e]; exact ⟨H14.out, HR14.out⟩) ?_
    clear hZ Z hW14 q0 q1 q2 qf HQ13
    have inst : Nonempty (In (fun y => y = W14)) := ⟨⟨W14, rfl⟩⟩
    repeat (quiet_step (fail))
    refine wpQuiet_nil ?_
    refine seq_last (C := fun y => y = W14) fun w15 e15 => ?_
    subst e15
    clear inst
    go_wp2_with fail
    try simp only [Exit.inBlock, Exit.then]
    refine bodyPost_ret (results_spb rfl rfl rfl rfl HR14.out HQ14.out) rfl ?_
    have hsz14 := H14.out.sz
    exact ⟨⟨_, rfl, A1, c1, B1, c2, rfl, H14.out.a.mono (by omega) (by omega), H14.out.b.mono (by omega) (by omega), hap10⟩, H14.out.bel⟩

set_option linter.unusedVariables false in
set_option maxRecDepth 100000 in
set_option maxHeartbeats 40000000 in
theorem snext_i_none2 (d : ByteArray) (f : Bool) (l n : Int) (LA LB : List Rg) (A : Option Addr) (ca : Nat) (B : Option Addr) (cb : Nat) (k : Int) (w : World) (hA : RngAt w A LA.length LA) (hB : RngAt w B LB.length LB) (eA : A = none → ca = 0) (eB : B = none → cb = 0) (hn : LA.length ≤ 2000000) (hn' : LB.length ≤ 2000000) (HV : Hid (okS ⟨d, f, l, n, LA, LB⟩ = true)) (HC : Hid (decide (1 ≤ k ∧ k ≤ 12) = true)) (hL : LB = []) (pos : Int) (HP : Hid (Sd.pos ⟨d, f, l, n, LA, LB⟩ = pos)) (st st2 m e : Int) (hst : (if (d.size : Int) < pos then (d.size : Int) else pos) = st) (hst2 : (if l < st then l else st) = st2) (hm : (if n + k < st2 then n + k else st2) = m) (he : (if n < m then m else n) = e) (h1 : (pos - 1 == (d.size : Int)) = true) (h2 : (e == (d.size : Int)) = false) (h4 : (e == n) = true) :
    Calls Try.prog 23 #[.agg #[.string d, .bool f, .int .i64 l, .int .i64 n, .slice A LA.length ca, .slice B LB.length cb], .int .i64 k] w (GotNext w (⟨d, f, l, n, LA, LB⟩, pt0, false)) := by
  have hk := of_decide_eq_true HC.out
  have hsv := hid_of (okS_iff.1 HV.out)
  have hsz30 : d.size ≤ 30 := hsv.out.len
  have hl0 : 0 ≤ l ∧ l ≤ 30 := ⟨hsv.out.l0, hsv.out.l1⟩
  have hn0 : 0 ≤ n ∧ n ≤ 31 := ⟨hsv.out.n0, hsv.out.n31⟩
  have hnp0 : n ≤ pos := by have := hsv.out.n1; rw [HP.out] at this; exact this
  have hposb : (d.size : Int) ≤ pos ∧ pos ≤ (d.size : Int) + 1 := by have e1 : (d.size : Int) ≤ Sd.pos ⟨d, f, l, n, LA, LB⟩ ∧ Sd.pos ⟨d, f, l, n, LA, LB⟩ ≤ (d.size : Int) + 1 := pos_le _; rw [HP.out] at e1; exact e1
  have heb : n ≤ e ∧ (e ≤ (d.size : Int) ∨ e = n) := by
    have e1 : st = min (d.size : Int) pos := by rw [← hst]; split <;> omega
    have e2 : st2 = min l st := by rw [← hst2]; split <;> omega
    have e3 : m = min (n + k) st2 := by rw [← hm]; split <;> omega
    have e4 : e = max n m := by rw [← he]; split <;> omega
    omega
  obtain ⟨heb0, heb1⟩ := heb
  have hnp : ¬ 0 < LB.length := by rw [hL]; simp
  clear hL
  have hwp : IntKind.i64.wrap (pos - 1) = pos - 1 := IntWalk.i64_in _ (by omega)
  have z := ((Own6.new (d := d) (f := f) (l := l) (n := n) (A := A) (na := LA.length) (ca := ca) (B := B) (nb := LB.length) (cb := cb) w).alloc (.cells #[.string (⟨#[]⟩ : ByteArray), .bool false, .int .i64 0, .int .i64 0, .slice none 0 0, .slice none 0 0] 25)).alloc (.cells #[.int .i64 0, .string (⟨#[]⟩ : ByteArray), .bool false] 27)
  have r := (Own6.new (d := (⟨#[]⟩ : ByteArray)) (f := false) (l := 0) (n := 0) (A := none) (na := 0) (ca := 0) (B := none) (nb := 0) (cb := 0) (w.alloc (.cells #[.string d, .bool f, .int .i64 l, .int .i64 n, .slice A LA.length ca, .slice B LB.length cb] 25))).alloc (.cells #[.int .i64 0, .string (⟨#[]⟩ : ByteArray), .bool false] 27)
  have q := Own3.new ((w.alloc (.cells #[.string d, .bool f, .int .i64 l, .int .i64 n, .slice A LA.length ca, .slice B LB.length cb] 25)).alloc (.cells #[.string (⟨#[]⟩ : ByteArray), .bool false, .int .i64 0, .int .i64 0, .slice none 0 0, .slice none 0 0] 25)) 0 (⟨#[]⟩ : ByteArray) false
  rw [show (w.alloc (.cells #[.string d, .bool f, .int .i64 l, .int .i64 n, .slice A LA.length ca, .slice B LB.length cb] 25)).heap.size = w.heap.size + 1 from by simp] at r
  rw [show ((w.alloc (.cells #[.string d, .bool f, .int .i64 l, .int .i64 n, .slice A LA.length ca, .slice B LB.length cb] 25)).alloc (.cells #[.string (⟨#[]⟩ : ByteArray), .bool false, .int .i64 0, .int .i64 0, .slice none 0 0, .slice none 0 0] 25)).heap.size = w.heap.size + 1 + 1 from by simp] at q
  have hW0 : Below w.heap.size w _ := (((Below.refl _ w).alloc (Nat.le_refl _) (.cells #[.string d, .bool f, .int .i64 l, .int .i64 n, .slice A LA.length ca, .slice B LB.length cb] 25)).alloc (by simp) (.cells #[.string (⟨#[]⟩ : ByteArray), .bool false, .int .i64 0, .int .i64 0, .slice none 0 0, .slice none 0 0] 25)).alloc (by simp; omega) (.cells #[.int .i64 0, .string (⟨#[]⟩ : ByteArray), .bool false] 27)
  have hsz : (((w.alloc (.cells #[.string d, .bool f, .int .i64 l, .int .i64 n, .slice A LA.length ca, .slice B LB.length cb] 25)).alloc (.cells #[.string (⟨#[]⟩ : ByteArray), .bool false, .int .i64 0, .int .i64 0, .slice none 0 0, .slice none 0 0] 25)).alloc (.cells #[.int .i64 0, .string (⟨#[]⟩ : ByteArray), .bool false] 27)).heap.size = w.heap.size + 1 + 1 + 1 := by simp
  go_enter Try.func23, Try.ntmps23
  go_wp2_with (first
    | (go_at_call 19; (with_reducible refine (sv_v_i HV.out _ (hA.below hW0) (hB.below hW0) hn hn').mono ?_); rintro e w1 ⟨rfl, hb1⟩; have z1 := z.under hb1 (by omega); have r1 := r.under hb1 (by omega); have q1 := q.under hb1 (by omega); have hw1 := hW0.trans (hb1.mono hW0.size); have hs1 : w.heap.size + 1 + 1 + 1 ≤ w1.heap.size := (by have := hb1.size; omega); have HZ := hid_of z1; have HR := hid_of r1; have HQ := hid_of q1; obtain ⟨⟨z0, z1, z2, z3, z4, z5⟩, zf⟩ := z1; obtain ⟨⟨r0, r1, r2, r3, r4, r5⟩, rf⟩ := r1; obtain ⟨⟨q0, q1, q2⟩, qf⟩ := q1; clear z r q hb1)
    | (go_at_call 55; (with_reducible refine (within_v HC.out _).mono ?_); rintro e w9 ⟨rfl, rfl⟩)
    | (go_at_call 47; (with_reducible refine (copy_i d f l n LA LB A ca B cb _ (hA.below hw1) (hB.below hw1) eA eB (by omega) (by omega)).mono ?_); rintro e w2 ⟨⟨_, rfl, A1, c1, B1, c2, rfl, hI1, hJ1, hap⟩, hb2⟩; have HZ2 := hid_of (HZ.out.under hb2 (by omega)); have HR2 := hid_of (HR.out.under hb2 (by omega)); have HQ2 := hid_of (HQ.out.under hb2 (by omega)); have hw2 := hw1.trans (hb2.mono hw1.size); have hs2 := hb2.size; clear z0 z1 z2 z3 z4 z5 zf r0 r1 r2 r3 r4 r5 rf q0 q1 q2 qf hb2))
  generalize hW8 : World.alloc w2 _ = W8
  have hz8 : Own6 W8 w.heap.size d f l n A LA.length ca B LB.length cb := by rw [← hW8]; exact HZ2.out.alloc _
  have hr8 : Own6 W8 (w.heap.size + 1) (⟨#[]⟩ : ByteArray) false 0 0 none 0 0 none 0 0 := by rw [← hW8]; exact HR2.out.alloc _
  have hq8 : Own3 W8 (w.heap.size + 1 + 1) 0 (⟨#[]⟩ : ByteArray) false := by rw [← hW8]; exact HQ2.out.alloc _
  have ho8 : Own6 W8 w2.heap.size d f l n A1 LA.length c1 B1 LB.length c2 := by rw [← hW8]; exact Own6.new w2
  have hw8 : Below w.heap.size w W8 := by rw [← hW8]; exact ba hw2 _
  have hs8 : W8.heap.size = w2.heap.size + 1 := by rw [← hW8]; simp
  have hI8 : RngIn W8 w1.heap.size w2.heap.size A1 LA.length c1 LA := by rw [← hW8]; exact hI1.alloc _
  have hJ8 : RngIn W8 w1.heap.size w2.heap.size B1 LB.length c2 LB := by rw [← hW8]; exact hJ1.alloc _
  clear hW8 hI1 hJ1
  have u0 := fun y : Up W8 => y.cell hz8.1.1
  have u1 := fun y : Up W8 => y.cell hz8.1.2.1
  have u2 := fun y : Up W8 => y.cell hz8.1.2.2.1
  have u3 := fun y : Up W8 => y.cell hz8.1.2.2.2.1
  have u4 := fun y : Up W8 => y.cell hz8.1.2.2.2.2.1
  have u5 := fun y : Up W8 => y.cell hz8.1.2.2.2.2.2
  refine wp_region_up (by kernel_rfl) (by kernel_rfl) ?_
  repeat (quiet_step ((go_at_call 56; with_reducible exact up_box fun w' => pos_v_impl HP.out w' (by omega))))
  refine wpQuiet_nil ?_
  intro w3 hb3
  clear u0 u1 u2 u3 u4 u5
  have HZ3 := hid_of (hz8.under hb3 (by omega))
  have HR3 := hid_of (hr8.under hb3 (by omega))
  have HQ3 := hid_of (hq8.under hb3 (by omega))
  have HO3 := hid_of (ho8.under hb3 (by omega))
  have hI3 := hI8.below hb3
  have hJ3 := hJ8.below hb3
  have hw3 := hw8.trans (hb3.mono hw8.size)
  have hs3 := hb3.size
  clear hz8 hr8 hq8 ho8 hI8 hJ8 hb3 hw8
  obtain ⟨⟨z0, z1, z2, z3, z4, z5⟩, zf⟩ := HZ3.out
  have lt3 : w.heap.size < w3.heap.size := by omega
  obtain ⟨⟨o0, o1, o2, o3, o4, o5⟩, of⟩ := HO3.out
  obtain ⟨⟨r0, r1, r2, r3, r4, r5⟩, rf⟩ := HR3.out
  obtain ⟨⟨q0, q1, q2⟩, qf⟩ := HQ3.out
  go_wp2_with fail
  try simp only [Exit.inBlock, Exit.then]
  refine bodyPost_ret (results_spb rfl rfl rfl rfl ((((HR3.out.setAll d f l n A1 LA.length c1 B1 LB.length c2).other (by dsimp only; omega) _).other (by dsimp only; omega) _).other (by dsimp only; omega) _) (((((((HQ3.out.other (by dsimp only; omega) _).other (by dsimp only; omega) _).other (by dsimp only; omega) _).other (by dsimp only; omega) _).other (by dsimp only; omega) _).other (by dsimp only; omega) _).setAll 0 ⟨#[]⟩ false)) rfl ?_
  refine ⟨⟨_, rfl, A1, c1, B1, c2, rfl, ?_, ?_, hap⟩, ?_⟩
  · refine RngIn.mono (B := w1.heap.size) (S := w2.heap.size) ?_ (by omega) (by simp [World.setCell]; omega)
    repeat refine RngIn.setLow ?_ (by dsimp only; omega) _
    exact hI3
  · refine RngIn.mono (B := w1.heap.size) (S := w2.heap.size) ?_ (by omega) (by simp [World.setCell]; omega)
    repeat refine RngIn.setLow ?_ (by dsimp only; omega) _
    exact hJ3
  · repeat refine Below.setCell ?_ (by dsimp only; omega) _
    exact hw3
end Go.Proofs.Ytmkmaeblnnfheaa
