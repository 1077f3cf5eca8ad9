/- The next part of a stream, by the reference. -/
import Derived.Test.YtmkmaeblnnfheaaMg2
import Derived.Test.YtmkmaeblnnfheaaRngD
namespace Go.Proofs.Ytmkmaeblnnfheaa
open Go.RowKit
attribute [local irreducible] Go.wpQuiet

/-- A stream in new memory, a part and a mark were handed back. -/
def GotNext (w : World) (r : Sd × Pt × Bool) (e : Ending) (w' : World) : Prop :=
  (∃ v, e = .returned (.tuple #[v, .agg #[.int .i64 r.2.1.o, .string r.2.1.d, .bool r.2.1.f], .bool r.2.2]) ∧ GotSd w r.1 v w') ∧ Below w.heap.size w w'
theorem rth_zero (r : Rg) (T : List Rg) : rth (r :: T) 0 = r := rfl

set_option linter.unusedVariables false in
set_option maxRecDepth 100000 in
set_option maxHeartbeats 4000000 in
theorem next_lost1 (d : ByteArray) (f : Bool) (l n : Int) (LA LB : List Rg) (A : Option Addr) (ca : Nat) (B : Option Addr) (cb : Nat) (k : Int) (w : World) (hA : RngAt w A LA.length LA) (hB : RngAt w B LB.length LB) (eA : A = none → ca = 0) (eB : B = none → cb = 0) (hn : LA.length ≤ 100000) (hn' : LB.length ≤ 100000)
    (hk : 1 ≤ k ∧ k ≤ 1000) (hd : d.size ≤ 1000) (hl : -1000 ≤ l ∧ l ≤ 1000) (hn0 : 0 ≤ n ∧ n ≤ 1000) (lo hi : Int) (T : List Rg) (hL : LB = ⟨lo, hi⟩ :: T) (hlo : 0 ≤ lo ∧ lo ≤ d.size) (hhi : lo ≤ hi ∧ hi ≤ 1000) (hv : Int) (hc1 : hi < (d.size : Int)) (hcut : min hi (lo + k - 1) = hv) (r : Sd × Pt × Bool) (hr : r = (⟨d, f, l, n, LA, remove LB lo hv⟩, part ⟨d, f, l, n, LA, LB⟩ lo hv, true)) :
    Calls Try.prog 67 #[.agg #[.string d, .bool f, .int .i64 l, .int .i64 n, .slice A LA.length ca, .slice B LB.length cb], .int .i64 k] w (GotNext w r) := by
  have HRR := hid_of hr
  clear hr
  obtain ⟨p, hp⟩ : ∃ p, part ⟨d, f, l, n, LA, LB⟩ lo hv = p := ⟨_, rfl⟩
  have HP := hid_of hp
  clear hp
  have HLB := hid_of hL
  obtain ⟨hlo0, hlo1⟩ := hlo
  obtain ⟨hhi0, hhi1⟩ := hhi
  have hmv : (if lo + k - 1 < hi then lo + k - 1 else hi) = hv := by split <;> omega
  have hvb : lo ≤ hv ∧ hv ≤ 1000 := by omega
  obtain ⟨hv0, hv1⟩ := hvb
  have HCUT := hid_of hcut
  clear hcut
  obtain ⟨hk0, hk1⟩ := hk
  obtain ⟨hl0, hl1⟩ := hl
  obtain ⟨hn00, hn01⟩ := hn0
  have z := ((Own6.new (d := d) (f := f) (l := l) (n := n) (A := A) (na := LA.length) (ca := ca) (B := B) (nb := LB.length) (cb := cb) w).alloc (.cells #[.string (⟨#[]⟩ : ByteArray), .bool false, .int .i64 0, .int .i64 0, .slice none 0 0, .slice none 0 0] 25)).alloc (.cells #[.int .i64 0, .string (⟨#[]⟩ : ByteArray), .bool false] 27)
  have r := (Own6.new (d := (⟨#[]⟩ : ByteArray)) (f := false) (l := 0) (n := 0) (A := none) (na := 0) (ca := 0) (B := none) (nb := 0) (cb := 0) (w.alloc (.cells #[.string d, .bool f, .int .i64 l, .int .i64 n, .slice A LA.length ca, .slice B LB.length cb] 25))).alloc (.cells #[.int .i64 0, .string (⟨#[]⟩ : ByteArray), .bool false] 27)
  have q := Own3.new ((w.alloc (.cells #[.string d, .bool f, .int .i64 l, .int .i64 n, .slice A LA.length ca, .slice B LB.length cb] 25)).alloc (.cells #[.string (⟨#[]⟩ : ByteArray), .bool false, .int .i64 0, .int .i64 0, .slice none 0 0, .slice none 0 0] 25)) 0 (⟨#[]⟩ : ByteArray) false
  rw [show (w.alloc (.cells #[.string d, .bool f, .int .i64 l, .int .i64 n, .slice A LA.length ca, .slice B LB.length cb] 25)).heap.size = w.heap.size + 1 from by simp] at r
  rw [show ((w.alloc (.cells #[.string d, .bool f, .int .i64 l, .int .i64 n, .slice A LA.length ca, .slice B LB.length cb] 25)).alloc (.cells #[.string (⟨#[]⟩ : ByteArray), .bool false, .int .i64 0, .int .i64 0, .slice none 0 0, .slice none 0 0] 25)).heap.size = w.heap.size + 1 + 1 from by simp] at q
  have hW0 : Below w.heap.size w _ := (((Below.refl _ w).alloc (Nat.le_refl _) (.cells #[.string d, .bool f, .int .i64 l, .int .i64 n, .slice A LA.length ca, .slice B LB.length cb] 25)).alloc (by simp) (.cells #[.string (⟨#[]⟩ : ByteArray), .bool false, .int .i64 0, .int .i64 0, .slice none 0 0, .slice none 0 0] 25)).alloc (by simp; omega) (.cells #[.int .i64 0, .string (⟨#[]⟩ : ByteArray), .bool false] 27)
  have hsz : (((w.alloc (.cells #[.string d, .bool f, .int .i64 l, .int .i64 n, .slice A LA.length ca, .slice B LB.length cb] 25)).alloc (.cells #[.string (⟨#[]⟩ : ByteArray), .bool false, .int .i64 0, .int .i64 0, .slice none 0 0, .slice none 0 0] 25)).alloc (.cells #[.int .i64 0, .string (⟨#[]⟩ : ByteArray), .bool false] 27)).heap.size = w.heap.size + 1 + 1 + 1 := by simp
  obtain ⟨g, off, eg, hg, hc⟩ := hB.2 (by rw [hL]; simp)
  obtain ⟨g0, g1⟩ := hc 0 (by rw [hL]; simp)
  rw [hL] at g0 g1
  rw [rth_zero] at g0 g1
  dsimp only at g0 g1
  simp only [Nat.zero_mul, Nat.add_zero] at g0 g1
  have hpos : 0 < LB.length := by rw [hL]; simp
  clear hc hL
  subst eg
  go_enter Try.func67, Try.ntmps67
  go_wp2_with (first
    | (go_at_call 62; go_loud ((with_reducible refine (copy_s d f l n LA LB A ca (some ⟨g, off, none⟩) cb _ (hA.below hW0) (hB.below hW0) eA eB (by omega) (by omega)).mono ?_); rintro e w1 ⟨⟨_, rfl, A1, c1, B1, c2, rfl, hI1, hJ1, hap⟩, hb1⟩; have hI1 : RngIn w1 (w.heap.size + 1 + 1 + 1) w1.heap.size A1 LA.length c1 LA := (by rw [hsz] at hI1; exact hI1); have hJ1 : RngIn w1 (w.heap.size + 1 + 1 + 1) w1.heap.size B1 LB.length c2 LB := (by rw [hsz] at hJ1; exact hJ1); have z1 := z.under hb1 (by omega); have r1 := r.under hb1 (by omega); have q1 := q.under hb1 (by omega); have hw1 := hW0.trans (hb1.mono hW0.size); have hs1 : w.heap.size + 1 + 1 + 1 ≤ w1.heap.size := (by have := hb1.size; omega); have lt1 : w.heap.size < w1.heap.size := (by omega); have lt2 : w.heap.size + 1 < w1.heap.size := (by omega); have lt3 : w.heap.size + 1 + 1 < w1.heap.size := (by omega); have HZ := hid_of z1; have HR := hid_of r1; have HQ := hid_of q1; obtain ⟨⟨z0, z1, z2, z3, z4, z5⟩, zf⟩ := z1; obtain ⟨⟨r0, r1, r2, r3, r4, r5⟩, rf⟩ := r1; obtain ⟨⟨q0, q1, q2⟩, qf⟩ := q1; clear z r q; have g0 := (hw1.cell (p := ⟨g, _, none⟩) hg).trans g0; have g1 := (hw1.cell (p := ⟨g, _, none⟩) hg).trans g1; have hg1 : g < w1.heap.size := (by omega)))
    | (go_at_call 85; go_loud ((with_reducible refine (l2Remove_any (some ⟨g, off, none⟩) LB.length cb LB _ lo hv ((hB.below hw1).alloc _) (by omega) (by omega) (by omega)).mono ?_); rintro e w2 ⟨B2, c3, rfl, hI2, hb2⟩; have hI2 : RngIn w2 (w1.heap.size + 1) w2.heap.size B2 (remove LB lo hv).length c3 (remove LB lo hv) := hI2.mono (by simp) (Nat.le_refl _); have HO2 := hid_of ((Own6.new (d := d) (f := f) (l := l) (n := n) (A := A1) (na := LA.length) (ca := c1) (B := B1) (nb := LB.length) (cb := c2) w1).under hb2 (by simp)); have HZ2 := hid_of ((HZ.out.alloc (.cells #[.string d, .bool f, .int .i64 l, .int .i64 n, .slice A1 LA.length c1, .slice B1 LB.length c2] 25)).under hb2 (by simp; omega)); have HR2 := hid_of ((HR.out.alloc (.cells #[.string d, .bool f, .int .i64 l, .int .i64 n, .slice A1 LA.length c1, .slice B1 LB.length c2] 25)).under hb2 (by simp; omega)); have HQ2 := hid_of ((HQ.out.alloc (.cells #[.string d, .bool f, .int .i64 l, .int .i64 n, .slice A1 LA.length c1, .slice B1 LB.length c2] 25)).under hb2 (by simp; omega)); have hs2 : w1.heap.size + 1 ≤ w2.heap.size := (by have := hb2.size; simpa using this); have hw2 : Below w.heap.size w w2 := (ba hw1 _).trans (hb2.mono (by simp; omega)); have hI1 : RngIn w2 (w.heap.size + 1 + 1 + 1) w1.heap.size A1 LA.length c1 LA := (hI1.alloc _).below hb2; clear hb2; obtain ⟨⟨o0, o1, o2, o3, o4, o5⟩, of⟩ := HO2.out)))
  all_goals generalize hW8 : World.setCell w2 _ _ = W8
  all_goals
    have hz8 : Own6 W8 w.heap.size d f l n A LA.length ca (some ⟨g, off, none⟩) LB.length cb := by rw [← hW8]; exact HZ2.out.other (by dsimp only; omega) _
    have hr8 : Own6 W8 (w.heap.size + 1) (⟨#[]⟩ : ByteArray) false 0 0 none 0 0 none 0 0 := by rw [← hW8]; exact HR2.out.other (by dsimp only; omega) _
    have hq8 : Own3 W8 (w.heap.size + 1 + 1) 0 (⟨#[]⟩ : ByteArray) false := by rw [← hW8]; exact HQ2.out.other (by dsimp only; omega) _
    have ho8 : Own6 W8 w1.heap.size d f l n A1 LA.length c1 B2 (remove LB lo hv).length c3 := by rw [← hW8]; exact HO2.out.set5 _ _ _
    have hw8 : Below w.heap.size w W8 := by rw [← hW8]; exact hw2.setCell (by dsimp only; omega) _
    have hs8 : W8.heap.size = w2.heap.size := by rw [← hW8]; simp [World.setCell]
    have hI1 : RngIn W8 (w.heap.size + 1 + 1 + 1) w1.heap.size A1 LA.length c1 LA := by rw [← hW8]; exact hI1.touch (((Touch.refl w2 w1.heap.size (w1.heap.size + 1)).setCell (Nat.le_refl _) (Nat.lt_succ_self _) _)) (.inl (Nat.le_refl _))
    have hI2 : RngIn W8 (w1.heap.size + 1) w2.heap.size B2 (remove LB lo hv).length c3 (remove LB lo hv) := by rw [← hW8]; exact hI2.setLow (by dsimp only; omega) _
    have HZ8 := hid_of hz8
    have HR8 := hid_of hr8
    have HQ8 := hid_of hq8
    have HO8 := hid_of ho8
    clear hW8
    obtain ⟨⟨z0, z1, z2, z3, z4, z5⟩, zf⟩ := hz8
    obtain ⟨⟨r0, r1, r2, r3, r4, r5⟩, rf⟩ := hr8
    obtain ⟨⟨q0, q1, q2⟩, qf⟩ := hq8
    obtain ⟨⟨o0, o1, o2, o3, o4, o5⟩, of⟩ := ho8
  all_goals
    go_region_with (go_at_call 96; (with_reducible refine (part_s d f l n LA LB A LA.length ca (some ⟨g, off, none⟩) LB.length cb lo hv _ hlo0 hlo1 (by omega) HP.out).mono ?_); rintro e w3 ⟨rfl, hb3⟩; have hb3 : Below W8.heap.size W8 w3 := ⟨hb3.os, hb3.tape, hb3.output, hb3.size, hb3.block⟩; have hs3 := hb3.size; have HZ3 := hid_of (HZ8.out.under hb3 (by omega)); have HR3 := hid_of (HR8.out.under hb3 (by omega)); have HQ3 := hid_of (HQ8.out.under hb3 (by omega)); have HO3 := hid_of (HO8.out.under hb3 (by omega)); obtain ⟨⟨z0, z1, z2, z3, z4, z5⟩, zf⟩ := HZ3.out; obtain ⟨⟨r0, r1, r2, r3, r4, r5⟩, rf⟩ := HR3.out; obtain ⟨⟨q0, q1, q2⟩, qf⟩ := HQ3.out; obtain ⟨⟨o0, o1, o2, o3, o4, o5⟩, of⟩ := HO3.out)
  all_goals go_wp2_with fail
  all_goals
    try simp only [Exit.inBlock, Exit.then]
    refine bodyPost_ret (results_spb rfl rfl rfl rfl (((((HR3.out.setAll d f l n A1 LA.length c1 B2 (remove LB lo hv).length c3).other (by dsimp only; omega) _).other (by dsimp only; omega) _).other (by dsimp only; omega) _)) (((((((HQ3.out.other (by dsimp only; omega) _).other (by dsimp only; omega) _).other (by dsimp only; omega) _).other (by dsimp only; omega) _).other (by dsimp only; omega) _).other (by dsimp only; omega) _).setAll p.o p.d p.f)) rfl ?_
    rw [HRR.out, HP.out]
    refine ⟨⟨_, rfl, A1, c1, B2, c3, rfl, ?_, ?_, ?_⟩, ?_⟩
    · refine RngIn.mono (B := w.heap.size + 1 + 1 + 1) (S := w1.heap.size) ?_ (by omega) (by simp [World.setCell]; omega)
      repeat refine RngIn.setLow ?_ (by dsimp only; omega) _
      exact hI1.below hb3
    · refine RngIn.mono (B := w1.heap.size + 1) (S := w2.heap.size) ?_ (by omega) (by simp [World.setCell]; omega)
      repeat refine RngIn.setLow ?_ (by dsimp only; omega) _
      exact hI2.below hb3
    · exact apart_of hI1 hI2 (.inl (by omega))
    · repeat refine Below.setCell ?_ (by dsimp only; omega) _
      exact hw8.trans (hb3.mono (by omega))

end Go.Proofs.Ytmkmaeblnnfheaa
