/- The next part, nothing lost: new positions are sent. -/
import Derived.Test.YtmkmaeblnnfheabSndM
namespace Go.Proofs.Ytmkmaeblnnfheab
open Go.RowKit
attribute [local irreducible] Go.wpQuiet
attribute [local go_sem] run_min3

set_option linter.unusedVariables false in
set_option maxRecDepth 100000 in
set_option maxHeartbeats 4000000 in
theorem next_new_f (d : ByteArray) (l n : Int) (LA LB : List Rg) (A : Option Addr) (ca : Nat) (B : Option Addr) (cb : Nat) (k : Int) (w : World) (hA : RngAt w A LA.length LA) (hB : RngAt w B LB.length LB) (eA : A = none → ca = 0) (eB : B = none → cb = 0) (hn : LA.length ≤ 100000) (hn' : LB.length ≤ 100000)
    (hk : 1 ≤ k ∧ k ≤ 1000) (hd : d.size ≤ 1000) (hl : -1000 ≤ l ∧ l ≤ 1000) (hn0 : 0 ≤ n ∧ n ≤ 1000) (hL : LB = []) (m1 m2 : Int) (hm1 : (if l < (d.size : Int) then l else (d.size : Int)) = m1) (hm2 : (if n + k < m1 then n + k else m1) = m2)  (hle : n < m2) (r : Sd × Pt × Bool) (hr : r = (⟨d, false, l, m2, LA, LB⟩, part ⟨d, false, l, n, LA, LB⟩ n (m2 - 1), true)) :
    Calls Try.prog 54 #[.agg #[.string d, .bool false, .int .i64 l, .int .i64 n, .slice A LA.length ca, .slice B LB.length cb], .int .i64 k] w (GotNext w r) := by
  have HRR := hid_of hr
  clear hr
  have hmb : -1000 ≤ m2 ∧ m2 ≤ 1000 ∧ m2 ≤ d.size := by
    have e1 : m1 = min l (d.size : Int) := by rw [← hm1]; split <;> omega
    have e2 : m2 = min (n + k) m1 := by rw [← hm2]; split <;> omega
    omega
  obtain ⟨hmb0, hmb1, hmb2⟩ := hmb
  have hnp : ¬ 0 < LB.length := by rw [hL]; simp
  clear hL
  obtain ⟨p, hp⟩ : ∃ p, part ⟨d, false, l, n, LA, LB⟩ n (m2 - 1) = p := ⟨_, rfl⟩
  have HP := hid_of hp
  clear hp
  have hwm : IntKind.i64.wrap (m2 - 1) = m2 - 1 := IntWalk.i64_in _ (by omega)
  obtain ⟨hk0, hk1⟩ := hk
  obtain ⟨hl0, hl1⟩ := hl
  obtain ⟨hn00, hn01⟩ := hn0
  have z := ((Own6.new (d := d) (f := false) (l := l) (n := n) (A := A) (na := LA.length) (ca := ca) (B := B) (nb := LB.length) (cb := cb) w).alloc (.cells #[.string (⟨#[]⟩ : ByteArray), .bool false, .int .i64 0, .int .i64 0, .slice none 0 0, .slice none 0 0] 25)).alloc (.cells #[.int .i64 0, .string (⟨#[]⟩ : ByteArray), .bool false] 29)
  have r := (Own6.new (d := (⟨#[]⟩ : ByteArray)) (f := false) (l := 0) (n := 0) (A := none) (na := 0) (ca := 0) (B := none) (nb := 0) (cb := 0) (w.alloc (.cells #[.string d, .bool false, .int .i64 l, .int .i64 n, .slice A LA.length ca, .slice B LB.length cb] 25))).alloc (.cells #[.int .i64 0, .string (⟨#[]⟩ : ByteArray), .bool false] 29)
  have q := Own3.new ((w.alloc (.cells #[.string d, .bool false, .int .i64 l, .int .i64 n, .slice A LA.length ca, .slice B LB.length cb] 25)).alloc (.cells #[.string (⟨#[]⟩ : ByteArray), .bool false, .int .i64 0, .int .i64 0, .slice none 0 0, .slice none 0 0] 25)) 0 (⟨#[]⟩ : ByteArray) false
  rw [show (w.alloc (.cells #[.string d, .bool false, .int .i64 l, .int .i64 n, .slice A LA.length ca, .slice B LB.length cb] 25)).heap.size = w.heap.size + 1 from by simp] at r
  rw [show ((w.alloc (.cells #[.string d, .bool false, .int .i64 l, .int .i64 n, .slice A LA.length ca, .slice B LB.length cb] 25)).alloc (.cells #[.string (⟨#[]⟩ : ByteArray), .bool false, .int .i64 0, .int .i64 0, .slice none 0 0, .slice none 0 0] 25)).heap.size = w.heap.size + 1 + 1 from by simp] at q
  have hW0 : Below w.heap.size w _ := (((Below.refl _ w).alloc (Nat.le_refl _) (.cells #[.string d, .bool false, .int .i64 l, .int .i64 n, .slice A LA.length ca, .slice B LB.length cb] 25)).alloc (by simp) (.cells #[.string (⟨#[]⟩ : ByteArray), .bool false, .int .i64 0, .int .i64 0, .slice none 0 0, .slice none 0 0] 25)).alloc (by simp; omega) (.cells #[.int .i64 0, .string (⟨#[]⟩ : ByteArray), .bool false] 29)
  have hsz : (((w.alloc (.cells #[.string d, .bool false, .int .i64 l, .int .i64 n, .slice A LA.length ca, .slice B LB.length cb] 25)).alloc (.cells #[.string (⟨#[]⟩ : ByteArray), .bool false, .int .i64 0, .int .i64 0, .slice none 0 0, .slice none 0 0] 25)).alloc (.cells #[.int .i64 0, .string (⟨#[]⟩ : ByteArray), .bool false] 29)).heap.size = w.heap.size + 1 + 1 + 1 := by simp
  go_enter Try.func54, Try.ntmps54
  go_wp2_with (go_at_call 69; go_loud ((with_reducible refine (copy_s d false l n LA LB A ca B cb _ (hA.below hW0) (hB.below hW0) eA eB (by omega) (by omega)).mono ?_); rintro e w1 ⟨⟨_, rfl, A1, c1, B1, c2, rfl, hI1, hJ1, hap⟩, hb1⟩; have hI1 : RngIn w1 (w.heap.size + 1 + 1 + 1) w1.heap.size A1 LA.length c1 LA := (by rw [hsz] at hI1; exact hI1); have hJ1 : RngIn w1 (w.heap.size + 1 + 1 + 1) w1.heap.size B1 LB.length c2 LB := (by rw [hsz] at hJ1; exact hJ1); have z1 := z.under hb1 (by omega); have r1 := r.under hb1 (by omega); have q1 := q.under hb1 (by omega); have hw1 := hW0.trans (hb1.mono hW0.size); have hs1 : w.heap.size + 1 + 1 + 1 ≤ w1.heap.size := (by have := hb1.size; omega); have lt1 : w.heap.size < w1.heap.size := (by omega); have lt2 : w.heap.size + 1 < w1.heap.size := (by omega); have lt3 : w.heap.size + 1 + 1 < w1.heap.size := (by omega); have HZ := hid_of z1; have HR := hid_of r1; have HQ := hid_of q1; obtain ⟨⟨z0, z1, z2, z3, z4, z5⟩, zf⟩ := z1; obtain ⟨⟨r0, r1, r2, r3, r4, r5⟩, rf⟩ := r1; obtain ⟨⟨q0, q1, q2⟩, qf⟩ := q1; clear z r q))
  generalize hW8 : World.alloc w1 _ = W8
  have hz8 : Own6 W8 w.heap.size d false l n A LA.length ca B LB.length cb := by rw [← hW8]; exact HZ.out.alloc _
  have hr8 : Own6 W8 (w.heap.size + 1) (⟨#[]⟩ : ByteArray) false 0 0 none 0 0 none 0 0 := by rw [← hW8]; exact HR.out.alloc _
  have hq8 : Own3 W8 (w.heap.size + 1 + 1) 0 (⟨#[]⟩ : ByteArray) false := by rw [← hW8]; exact HQ.out.alloc _
  have ho8 : Own6 W8 w1.heap.size d false l (m2) A1 LA.length c1 B1 LB.length c2 := by rw [← hW8]; exact Own6.new w1
  have hw8 : Below w.heap.size w W8 := by rw [← hW8]; exact ba hw1 _
  have hs8 : W8.heap.size = w1.heap.size + 1 := by rw [← hW8]; simp
  have hI1 : RngIn W8 (w.heap.size + 1 + 1 + 1) w1.heap.size A1 LA.length c1 LA := by rw [← hW8]; exact hI1.alloc _
  have hJ1 : RngIn W8 (w.heap.size + 1 + 1 + 1) w1.heap.size B1 LB.length c2 LB := by rw [← hW8]; exact hJ1.alloc _
  have HZ8 := hid_of hz8
  have HR8 := hid_of hr8
  have HQ8 := hid_of hq8
  have HO8 := hid_of ho8
  clear hW8
  obtain ⟨⟨z0, z1, z2, z3, z4, z5⟩, zf⟩ := hz8
  obtain ⟨⟨r0, r1, r2, r3, r4, r5⟩, rf⟩ := hr8
  obtain ⟨⟨q0, q1, q2⟩, qf⟩ := hq8
  obtain ⟨⟨o0, o1, o2, o3, o4, o5⟩, of⟩ := ho8
  have ne1 : ¬ (w.heap.size + 1 = w1.heap.size) := by omega
  have ne2 : ¬ (w1.heap.size = w.heap.size + 1) := by omega
  have ne3 : ¬ (w.heap.size + 1 + 1 = w1.heap.size) := by omega
  have ne4 : ¬ (w1.heap.size = w.heap.size + 1 + 1) := by omega
  have ne5 : ¬ (w.heap.size = w.heap.size + 1 + 1) := by omega
  have ne6 : ¬ (w.heap.size + 1 + 1 = w.heap.size) := by omega
  have ne7 : ¬ (w.heap.size = w.heap.size + 1) := by omega
  have ne8 : ¬ (w.heap.size + 1 = w.heap.size) := by omega
  go_region_held3 (fun w' => w'.cell? ⟨w.heap.size, 0, none⟩ = some (.string d) ∧ w'.cell? ⟨w.heap.size, 1, none⟩ = some (.bool false) ∧ w'.cell? ⟨w.heap.size, 2, none⟩ = some (.int .i64 l) ∧ w'.cell? ⟨w.heap.size, 3, none⟩ = some (.int .i64 n) ∧ w'.cell? ⟨w.heap.size, 4, none⟩ = some (.slice A LA.length ca) ∧ w'.cell? ⟨w.heap.size, 5, none⟩ = some (.slice B LB.length cb) ∧ w'.cell? ⟨w1.heap.size, 0, none⟩ = some (.string d) ∧ w'.cell? ⟨w1.heap.size, 1, none⟩ = some (.bool false) ∧ w'.cell? ⟨w1.heap.size, 2, none⟩ = some (.int .i64 l) ∧ w'.cell? ⟨w1.heap.size, 3, none⟩ = some (.int .i64 (m2)) ∧ w'.cell? ⟨w1.heap.size, 4, none⟩ = some (.slice A1 LA.length c1) ∧ w'.cell? ⟨w1.heap.size, 5, none⟩ = some (.slice B1 LB.length c2)) (go_keep) ((go_at_call 77; (with_reducible refine (part_s d false l n LA LB A LA.length ca B LB.length cb n (m2 - 1) _ hn00 (by omega) (by omega) HP.out).mono ?_); rintro e w3 ⟨rfl, hb3⟩; have hb3 : Below W8.heap.size W8 w3 := ⟨hb3.os, hb3.tape, hb3.output, hb3.size, hb3.block⟩; have hs3 := hb3.size; have HZ3 := hid_of (HZ8.out.under hb3 (by omega)); have HR3 := hid_of (HR8.out.under hb3 (by omega)); have HQ3 := hid_of (HQ8.out.under hb3 (by omega)); have HO3 := hid_of (HO8.out.under hb3 (by omega)); obtain ⟨⟨z0, z1, z2, z3, z4, z5⟩, zf⟩ := HZ3.out; obtain ⟨⟨r0, r1, r2, r3, r4, r5⟩, rf⟩ := HR3.out; obtain ⟨⟨q0, q1, q2⟩, qf⟩ := HQ3.out; obtain ⟨⟨o0, o1, o2, o3, o4, o5⟩, of⟩ := HO3.out))
  all_goals go_wp2_with fail
  all_goals
    try simp only [Exit.inBlock, Exit.then]
    refine bodyPost_ret (results_spb rfl rfl rfl rfl (((((HR3.out.setAll d false l (m2) A1 LA.length c1 B1 LB.length c2).other (by dsimp only; omega) _).other (by dsimp only; omega) _).other (by dsimp only; omega) _)) (((((((HQ3.out.other (by dsimp only; omega) _).other (by dsimp only; omega) _).other (by dsimp only; omega) _).other (by dsimp only; omega) _).other (by dsimp only; omega) _).other (by dsimp only; omega) _).setAll p.o p.d p.f)) rfl ?_
    rw [HRR.out, HP.out]
    refine ⟨⟨_, rfl, A1, c1, B1, c2, rfl, ?_, ?_, hap⟩, ?_⟩
    · refine RngIn.mono (B := w.heap.size + 1 + 1 + 1) (S := w1.heap.size) ?_ (by omega) (by simp [World.setCell]; omega)
      repeat refine RngIn.setLow ?_ (by dsimp only; omega) _
      exact hI1.below hb3
    · refine RngIn.mono (B := w.heap.size + 1 + 1 + 1) (S := w1.heap.size) ?_ (by omega) (by simp [World.setCell]; omega)
      repeat refine RngIn.setLow ?_ (by dsimp only; omega) _
      exact hJ1.below hb3
    · repeat refine Below.setCell ?_ (by dsimp only; omega) _
      exact hw8.trans (hb3.mono (by omega))

set_option linter.unusedVariables false in
set_option maxRecDepth 100000 in
set_option maxHeartbeats 4000000 in
theorem next_new_t1 (d : ByteArray) (l n : Int) (LA LB : List Rg) (A : Option Addr) (ca : Nat) (B : Option Addr) (cb : Nat) (k : Int) (w : World) (hA : RngAt w A LA.length LA) (hB : RngAt w B LB.length LB) (eA : A = none → ca = 0) (eB : B = none → cb = 0) (hn : LA.length ≤ 100000) (hn' : LB.length ≤ 100000)
    (hk : 1 ≤ k ∧ k ≤ 1000) (hd : d.size ≤ 1000) (hl : -1000 ≤ l ∧ l ≤ 1000) (hn0 : 0 ≤ n ∧ n ≤ 1000) (hL : LB = []) (m1 m2 : Int) (hm1 : (if l < (d.size : Int) then l else (d.size : Int)) = m1) (hm2 : (if n + k < m1 then n + k else m1) = m2) (hE : (m2 == (d.size : Int)) = true) (hle : n < m2 + 1) (r : Sd × Pt × Bool) (hr : r = (⟨d, true, l, m2 + 1, LA, LB⟩, part ⟨d, true, l, n, LA, LB⟩ n (m2), true)) :
    Calls Try.prog 54 #[.agg #[.string d, .bool true, .int .i64 l, .int .i64 n, .slice A LA.length ca, .slice B LB.length cb], .int .i64 k] w (GotNext w r) := by
  have HRR := hid_of hr
  clear hr
  have hmb : -1000 ≤ m2 ∧ m2 ≤ 1000 ∧ m2 ≤ d.size := by
    have e1 : m1 = min l (d.size : Int) := by rw [← hm1]; split <;> omega
    have e2 : m2 = min (n + k) m1 := by rw [← hm2]; split <;> omega
    omega
  obtain ⟨hmb0, hmb1, hmb2⟩ := hmb
  have hnp : ¬ 0 < LB.length := by rw [hL]; simp
  clear hL
  obtain ⟨p, hp⟩ : ∃ p, part ⟨d, true, l, n, LA, LB⟩ n (m2) = p := ⟨_, rfl⟩
  have HP := hid_of hp
  clear hp
  have hwm : IntKind.i64.wrap (m2) = m2 := IntWalk.i64_in _ (by omega)
  obtain ⟨hk0, hk1⟩ := hk
  obtain ⟨hl0, hl1⟩ := hl
  obtain ⟨hn00, hn01⟩ := hn0
  have z := ((Own6.new (d := d) (f := true) (l := l) (n := n) (A := A) (na := LA.length) (ca := ca) (B := B) (nb := LB.length) (cb := cb) w).alloc (.cells #[.string (⟨#[]⟩ : ByteArray), .bool false, .int .i64 0, .int .i64 0, .slice none 0 0, .slice none 0 0] 25)).alloc (.cells #[.int .i64 0, .string (⟨#[]⟩ : ByteArray), .bool false] 29)
  have r := (Own6.new (d := (⟨#[]⟩ : ByteArray)) (f := false) (l := 0) (n := 0) (A := none) (na := 0) (ca := 0) (B := none) (nb := 0) (cb := 0) (w.alloc (.cells #[.string d, .bool true, .int .i64 l, .int .i64 n, .slice A LA.length ca, .slice B LB.length cb] 25))).alloc (.cells #[.int .i64 0, .string (⟨#[]⟩ : ByteArray), .bool false] 29)
  have q := Own3.new ((w.alloc (.cells #[.string d, .bool true, .int .i64 l, .int .i64 n, .slice A LA.length ca, .slice B LB.length cb] 25)).alloc (.cells #[.string (⟨#[]⟩ : ByteArray), .bool false, .int .i64 0, .int .i64 0, .slice none 0 0, .slice none 0 0] 25)) 0 (⟨#[]⟩ : ByteArray) false
  rw [show (w.alloc (.cells #[.string d, .bool true, .int .i64 l, .int .i64 n, .slice A LA.length ca, .slice B LB.length cb] 25)).heap.size = w.heap.size + 1 from by simp] at r
  rw [show ((w.alloc (.cells #[.string d, .bool true, .int .i64 l, .int .i64 n, .slice A LA.length ca, .slice B LB.length cb] 25)).alloc (.cells #[.string (⟨#[]⟩ : ByteArray), .bool false, .int .i64 0, .int .i64 0, .slice none 0 0, .slice none 0 0] 25)).heap.size = w.heap.size + 1 + 1 from by simp] at q
  have hW0 : Below w.heap.size w _ := (((Below.refl _ w).alloc (Nat.le_refl _) (.cells #[.string d, .bool true, .int .i64 l, .int .i64 n, .slice A LA.length ca, .slice B LB.length cb] 25)).alloc (by simp) (.cells #[.string (⟨#[]⟩ : ByteArray), .bool false, .int .i64 0, .int .i64 0, .slice none 0 0, .slice none 0 0] 25)).alloc (by simp; omega) (.cells #[.int .i64 0, .string (⟨#[]⟩ : ByteArray), .bool false] 29)
  have hsz : (((w.alloc (.cells #[.string d, .bool true, .int .i64 l, .int .i64 n, .slice A LA.length ca, .slice B LB.length cb] 25)).alloc (.cells #[.string (⟨#[]⟩ : ByteArray), .bool false, .int .i64 0, .int .i64 0, .slice none 0 0, .slice none 0 0] 25)).alloc (.cells #[.int .i64 0, .string (⟨#[]⟩ : ByteArray), .bool false] 29)).heap.size = w.heap.size + 1 + 1 + 1 := by simp
  go_enter Try.func54, Try.ntmps54
  go_wp2_with (go_at_call 69; go_loud ((with_reducible refine (copy_s d true l n LA LB A ca B cb _ (hA.below hW0) (hB.below hW0) eA eB (by omega) (by omega)).mono ?_); rintro e w1 ⟨⟨_, rfl, A1, c1, B1, c2, rfl, hI1, hJ1, hap⟩, hb1⟩; have hI1 : RngIn w1 (w.heap.size + 1 + 1 + 1) w1.heap.size A1 LA.length c1 LA := (by rw [hsz] at hI1; exact hI1); have hJ1 : RngIn w1 (w.heap.size + 1 + 1 + 1) w1.heap.size B1 LB.length c2 LB := (by rw [hsz] at hJ1; exact hJ1); have z1 := z.under hb1 (by omega); have r1 := r.under hb1 (by omega); have q1 := q.under hb1 (by omega); have hw1 := hW0.trans (hb1.mono hW0.size); have hs1 : w.heap.size + 1 + 1 + 1 ≤ w1.heap.size := (by have := hb1.size; omega); have lt1 : w.heap.size < w1.heap.size := (by omega); have lt2 : w.heap.size + 1 < w1.heap.size := (by omega); have lt3 : w.heap.size + 1 + 1 < w1.heap.size := (by omega); have HZ := hid_of z1; have HR := hid_of r1; have HQ := hid_of q1; obtain ⟨⟨z0, z1, z2, z3, z4, z5⟩, zf⟩ := z1; obtain ⟨⟨r0, r1, r2, r3, r4, r5⟩, rf⟩ := r1; obtain ⟨⟨q0, q1, q2⟩, qf⟩ := q1; clear z r q))
  generalize hW8 : World.alloc w1 _ = W8
  have hz8 : Own6 W8 w.heap.size d true l n A LA.length ca B LB.length cb := by rw [← hW8]; exact HZ.out.alloc _
  have hr8 : Own6 W8 (w.heap.size + 1) (⟨#[]⟩ : ByteArray) false 0 0 none 0 0 none 0 0 := by rw [← hW8]; exact HR.out.alloc _
  have hq8 : Own3 W8 (w.heap.size + 1 + 1) 0 (⟨#[]⟩ : ByteArray) false := by rw [← hW8]; exact HQ.out.alloc _
  have ho8 : Own6 W8 w1.heap.size d true l (m2 + 1) A1 LA.length c1 B1 LB.length c2 := by rw [← hW8]; exact Own6.new w1
  have hw8 : Below w.heap.size w W8 := by rw [← hW8]; exact ba hw1 _
  have hs8 : W8.heap.size = w1.heap.size + 1 := by rw [← hW8]; simp
  have hI1 : RngIn W8 (w.heap.size + 1 + 1 + 1) w1.heap.size A1 LA.length c1 LA := by rw [← hW8]; exact hI1.alloc _
  have hJ1 : RngIn W8 (w.heap.size + 1 + 1 + 1) w1.heap.size B1 LB.length c2 LB := by rw [← hW8]; exact hJ1.alloc _
  have HZ8 := hid_of hz8
  have HR8 := hid_of hr8
  have HQ8 := hid_of hq8
  have HO8 := hid_of ho8
  clear hW8
  obtain ⟨⟨z0, z1, z2, z3, z4, z5⟩, zf⟩ := hz8
  obtain ⟨⟨r0, r1, r2, r3, r4, r5⟩, rf⟩ := hr8
  obtain ⟨⟨q0, q1, q2⟩, qf⟩ := hq8
  obtain ⟨⟨o0, o1, o2, o3, o4, o5⟩, of⟩ := ho8
  have ne1 : ¬ (w.heap.size + 1 = w1.heap.size) := by omega
  have ne2 : ¬ (w1.heap.size = w.heap.size + 1) := by omega
  have ne3 : ¬ (w.heap.size + 1 + 1 = w1.heap.size) := by omega
  have ne4 : ¬ (w1.heap.size = w.heap.size + 1 + 1) := by omega
  have ne5 : ¬ (w.heap.size = w.heap.size + 1 + 1) := by omega
  have ne6 : ¬ (w.heap.size + 1 + 1 = w.heap.size) := by omega
  have ne7 : ¬ (w.heap.size = w.heap.size + 1) := by omega
  have ne8 : ¬ (w.heap.size + 1 = w.heap.size) := by omega
  go_region_held3 (fun w' => w'.cell? ⟨w.heap.size, 0, none⟩ = some (.string d) ∧ w'.cell? ⟨w.heap.size, 1, none⟩ = some (.bool true) ∧ w'.cell? ⟨w.heap.size, 2, none⟩ = some (.int .i64 l) ∧ w'.cell? ⟨w.heap.size, 3, none⟩ = some (.int .i64 n) ∧ w'.cell? ⟨w.heap.size, 4, none⟩ = some (.slice A LA.length ca) ∧ w'.cell? ⟨w.heap.size, 5, none⟩ = some (.slice B LB.length cb) ∧ w'.cell? ⟨w1.heap.size, 0, none⟩ = some (.string d) ∧ w'.cell? ⟨w1.heap.size, 1, none⟩ = some (.bool true) ∧ w'.cell? ⟨w1.heap.size, 2, none⟩ = some (.int .i64 l) ∧ w'.cell? ⟨w1.heap.size, 3, none⟩ = some (.int .i64 (m2 + 1)) ∧ w'.cell? ⟨w1.heap.size, 4, none⟩ = some (.slice A1 LA.length c1) ∧ w'.cell? ⟨w1.heap.size, 5, none⟩ = some (.slice B1 LB.length c2)) (go_keep) ((go_at_call 77; (with_reducible refine (part_s d true l n LA LB A LA.length ca B LB.length cb n (m2) _ hn00 (by omega) (by omega) HP.out).mono ?_); rintro e w3 ⟨rfl, hb3⟩; have hb3 : Below W8.heap.size W8 w3 := ⟨hb3.os, hb3.tape, hb3.output, hb3.size, hb3.block⟩; have hs3 := hb3.size; have HZ3 := hid_of (HZ8.out.under hb3 (by omega)); have HR3 := hid_of (HR8.out.under hb3 (by omega)); have HQ3 := hid_of (HQ8.out.under hb3 (by omega)); have HO3 := hid_of (HO8.out.under hb3 (by omega)); obtain ⟨⟨z0, z1, z2, z3, z4, z5⟩, zf⟩ := HZ3.out; obtain ⟨⟨r0, r1, r2, r3, r4, r5⟩, rf⟩ := HR3.out; obtain ⟨⟨q0, q1, q2⟩, qf⟩ := HQ3.out; obtain ⟨⟨o0, o1, o2, o3, o4, o5⟩, of⟩ := HO3.out))
  all_goals go_wp2_with fail
  all_goals
    try simp only [Exit.inBlock, Exit.then]
    refine bodyPost_ret (results_spb rfl rfl rfl rfl (((((HR3.out.setAll d true l (m2 + 1) A1 LA.length c1 B1 LB.length c2).other (by dsimp only; omega) _).other (by dsimp only; omega) _).other (by dsimp only; omega) _)) (((((((HQ3.out.other (by dsimp only; omega) _).other (by dsimp only; omega) _).other (by dsimp only; omega) _).other (by dsimp only; omega) _).other (by dsimp only; omega) _).other (by dsimp only; omega) _).setAll p.o p.d p.f)) rfl ?_
    rw [HRR.out, HP.out]
    refine ⟨⟨_, rfl, A1, c1, B1, c2, rfl, ?_, ?_, hap⟩, ?_⟩
    · refine RngIn.mono (B := w.heap.size + 1 + 1 + 1) (S := w1.heap.size) ?_ (by omega) (by simp [World.setCell]; omega)
      repeat refine RngIn.setLow ?_ (by dsimp only; omega) _
      exact hI1.below hb3
    · refine RngIn.mono (B := w.heap.size + 1 + 1 + 1) (S := w1.heap.size) ?_ (by omega) (by simp [World.setCell]; omega)
      repeat refine RngIn.setLow ?_ (by dsimp only; omega) _
      exact hJ1.below hb3
    · repeat refine Below.setCell ?_ (by dsimp only; omega) _
      exact hw8.trans (hb3.mono (by omega))

set_option linter.unusedVariables false in
set_option maxRecDepth 100000 in
set_option maxHeartbeats 4000000 in
theorem next_new_t2 (d : ByteArray) (l n : Int) (LA LB : List Rg) (A : Option Addr) (ca : Nat) (B : Option Addr) (cb : Nat) (k : Int) (w : World) (hA : RngAt w A LA.length LA) (hB : RngAt w B LB.length LB) (eA : A = none → ca = 0) (eB : B = none → cb = 0) (hn : LA.length ≤ 100000) (hn' : LB.length ≤ 100000)
    (hk : 1 ≤ k ∧ k ≤ 1000) (hd : d.size ≤ 1000) (hl : -1000 ≤ l ∧ l ≤ 1000) (hn0 : 0 ≤ n ∧ n ≤ 1000) (hL : LB = []) (m1 m2 : Int) (hm1 : (if l < (d.size : Int) then l else (d.size : Int)) = m1) (hm2 : (if n + k < m1 then n + k else m1) = m2) (hE : (m2 == (d.size : Int)) = false) (hle : n < m2) (r : Sd × Pt × Bool) (hr : r = (⟨d, true, l, m2, LA, LB⟩, part ⟨d, true, l, n, LA, LB⟩ n (m2 - 1), true)) :
    Calls Try.prog 54 #[.agg #[.string d, .bool true, .int .i64 l, .int .i64 n, .slice A LA.length ca, .slice B LB.length cb], .int .i64 k] w (GotNext w r) := by
  have HRR := hid_of hr
  clear hr
  have hmb : -1000 ≤ m2 ∧ m2 ≤ 1000 ∧ m2 ≤ d.size := by
    have e1 : m1 = min l (d.size : Int) := by rw [← hm1]; split <;> omega
    have e2 : m2 = min (n + k) m1 := by rw [← hm2]; split <;> omega
    omega
  obtain ⟨hmb0, hmb1, hmb2⟩ := hmb
  have hnp : ¬ 0 < LB.length := by rw [hL]; simp
  clear hL
  obtain ⟨p, hp⟩ : ∃ p, part ⟨d, true, l, n, LA, LB⟩ n (m2 - 1) = p := ⟨_, rfl⟩
  have HP := hid_of hp
  clear hp
  have hwm : IntKind.i64.wrap (m2 - 1) = m2 - 1 := IntWalk.i64_in _ (by omega)
  obtain ⟨hk0, hk1⟩ := hk
  obtain ⟨hl0, hl1⟩ := hl
  obtain ⟨hn00, hn01⟩ := hn0
  have z := ((Own6.new (d := d) (f := true) (l := l) (n := n) (A := A) (na := LA.length) (ca := ca) (B := B) (nb := LB.length) (cb := cb) w).alloc (.cells #[.string (⟨#[]⟩ : ByteArray), .bool false, .int .i64 0, .int .i64 0, .slice none 0 0, .slice none 0 0] 25)).alloc (.cells #[.int .i64 0, .string (⟨#[]⟩ : ByteArray), .bool false] 29)
  have r := (Own6.new (d := (⟨#[]⟩ : ByteArray)) (f := false) (l := 0) (n := 0) (A := none) (na := 0) (ca := 0) (B := none) (nb := 0) (cb := 0) (w.alloc (.cells #[.string d, .bool true, .int .i64 l, .int .i64 n, .slice A LA.length ca, .slice B LB.length cb] 25))).alloc (.cells #[.int .i64 0, .string (⟨#[]⟩ : ByteArray), .bool false] 29)
  have q := Own3.new ((w.alloc (.cells #[.string d, .bool true, .int .i64 l, .int .i64 n, .slice A LA.length ca, .slice B LB.length cb] 25)).alloc (.cells #[.string (⟨#[]⟩ : ByteArray), .bool false, .int .i64 0, .int .i64 0, .slice none 0 0, .slice none 0 0] 25)) 0 (⟨#[]⟩ : ByteArray) false
  rw [show (w.alloc (.cells #[.string d, .bool true, .int .i64 l, .int .i64 n, .slice A LA.length ca, .slice B LB.length cb] 25)).heap.size = w.heap.size + 1 from by simp] at r
  rw [show ((w.alloc (.cells #[.string d, .bool true, .int .i64 l, .int .i64 n, .slice A LA.length ca, .slice B LB.length cb] 25)).alloc (.cells #[.string (⟨#[]⟩ : ByteArray), .bool false, .int .i64 0, .int .i64 0, .slice none 0 0, .slice none 0 0] 25)).heap.size = w.heap.size + 1 + 1 from by simp] at q
  have hW0 : Below w.heap.size w _ := (((Below.refl _ w).alloc (Nat.le_refl _) (.cells #[.string d, .bool true, .int .i64 l, .int .i64 n, .slice A LA.length ca, .slice B LB.length cb] 25)).alloc (by simp) (.cells #[.string (⟨#[]⟩ : ByteArray), .bool false, .int .i64 0, .int .i64 0, .slice none 0 0, .slice none 0 0] 25)).alloc (by simp; omega) (.cells #[.int .i64 0, .string (⟨#[]⟩ : ByteArray), .bool false] 29)
  have hsz : (((w.alloc (.cells #[.string d, .bool true, .int .i64 l, .int .i64 n, .slice A LA.length ca, .slice B LB.length cb] 25)).alloc (.cells #[.string (⟨#[]⟩ : ByteArray), .bool false, .int .i64 0, .int .i64 0, .slice none 0 0, .slice none 0 0] 25)).alloc (.cells #[.int .i64 0, .string (⟨#[]⟩ : ByteArray), .bool false] 29)).heap.size = w.heap.size + 1 + 1 + 1 := by simp
  go_enter Try.func54, Try.ntmps54
  go_wp2_with (go_at_call 69; go_loud ((with_reducible refine (copy_s d true l n LA LB A ca B cb _ (hA.below hW0) (hB.below hW0) eA eB (by omega) (by omega)).mono ?_); rintro e w1 ⟨⟨_, rfl, A1, c1, B1, c2, rfl, hI1, hJ1, hap⟩, hb1⟩; have hI1 : RngIn w1 (w.heap.size + 1 + 1 + 1) w1.heap.size A1 LA.length c1 LA := (by rw [hsz] at hI1; exact hI1); have hJ1 : RngIn w1 (w.heap.size + 1 + 1 + 1) w1.heap.size B1 LB.length c2 LB := (by rw [hsz] at hJ1; exact hJ1); have z1 := z.under hb1 (by omega); have r1 := r.under hb1 (by omega); have q1 := q.under hb1 (by omega); have hw1 := hW0.trans (hb1.mono hW0.size); have hs1 : w.heap.size + 1 + 1 + 1 ≤ w1.heap.size := (by have := hb1.size; omega); have lt1 : w.heap.size < w1.heap.size := (by omega); have lt2 : w.heap.size + 1 < w1.heap.size := (by omega); have lt3 : w.heap.size + 1 + 1 < w1.heap.size := (by omega); have HZ := hid_of z1; have HR := hid_of r1; have HQ := hid_of q1; obtain ⟨⟨z0, z1, z2, z3, z4, z5⟩, zf⟩ := z1; obtain ⟨⟨r0, r1, r2, r3, r4, r5⟩, rf⟩ := r1; obtain ⟨⟨q0, q1, q2⟩, qf⟩ := q1; clear z r q))
  generalize hW8 : World.alloc w1 _ = W8
  have hz8 : Own6 W8 w.heap.size d true l n A LA.length ca B LB.length cb := by rw [← hW8]; exact HZ.out.alloc _
  have hr8 : Own6 W8 (w.heap.size + 1) (⟨#[]⟩ : ByteArray) false 0 0 none 0 0 none 0 0 := by rw [← hW8]; exact HR.out.alloc _
  have hq8 : Own3 W8 (w.heap.size + 1 + 1) 0 (⟨#[]⟩ : ByteArray) false := by rw [← hW8]; exact HQ.out.alloc _
  have ho8 : Own6 W8 w1.heap.size d true l (m2) A1 LA.length c1 B1 LB.length c2 := by rw [← hW8]; exact Own6.new w1
  have hw8 : Below w.heap.size w W8 := by rw [← hW8]; exact ba hw1 _
  have hs8 : W8.heap.size = w1.heap.size + 1 := by rw [← hW8]; simp
  have hI1 : RngIn W8 (w.heap.size + 1 + 1 + 1) w1.heap.size A1 LA.length c1 LA := by rw [← hW8]; exact hI1.alloc _
  have hJ1 : RngIn W8 (w.heap.size + 1 + 1 + 1) w1.heap.size B1 LB.length c2 LB := by rw [← hW8]; exact hJ1.alloc _
  have HZ8 := hid_of hz8
  have HR8 := hid_of hr8
  have HQ8 := hid_of hq8
  have HO8 := hid_of ho8
  clear hW8
  obtain ⟨⟨z0, z1, z2, z3, z4, z5⟩, zf⟩ := hz8
  obtain ⟨⟨r0, r1, r2, r3, r4, r5⟩, rf⟩ := hr8
  obtain ⟨⟨q0, q1, q2⟩, qf⟩ := hq8
  obtain ⟨⟨o0, o1, o2, o3, o4, o5⟩, of⟩ := ho8
  have ne1 : ¬ (w.heap.size + 1 = w1.heap.size) := by omega
  have ne2 : ¬ (w1.heap.size = w.heap.size + 1) := by omega
  have ne3 : ¬ (w.heap.size + 1 + 1 = w1.heap.size) := by omega
  have ne4 : ¬ (w1.heap.size = w.heap.size + 1 + 1) := by omega
  have ne5 : ¬ (w.heap.size = w.heap.size + 1 + 1) := by omega
  have ne6 : ¬ (w.heap.size + 1 + 1 = w.heap.size) := by omega
  have ne7 : ¬ (w.heap.size = w.heap.size + 1) := by omega
  have ne8 : ¬ (w.heap.size + 1 = w.heap.size) := by omega
  go_region_held3 (fun w' => w'.cell? ⟨w.heap.size, 0, none⟩ = some (.string d) ∧ w'.cell? ⟨w.heap.size, 1, none⟩ = some (.bool true) ∧ w'.cell? ⟨w.heap.size, 2, none⟩ = some (.int .i64 l) ∧ w'.cell? ⟨w.heap.size, 3, none⟩ = some (.int .i64 n) ∧ w'.cell? ⟨w.heap.size, 4, none⟩ = some (.slice A LA.length ca) ∧ w'.cell? ⟨w.heap.size, 5, none⟩ = some (.slice B LB.length cb) ∧ w'.cell? ⟨w1.heap.size, 0, none⟩ = some (.string d) ∧ w'.cell? ⟨w1.heap.size, 1, none⟩ = some (.bool true) ∧ w'.cell? ⟨w1.heap.size, 2, none⟩ = some (.int .i64 l) ∧ w'.cell? ⟨w1.heap.size, 3, none⟩ = some (.int .i64 (m2)) ∧ w'.cell? ⟨w1.heap.size, 4, none⟩ = some (.slice A1 LA.length c1) ∧ w'.cell? ⟨w1.heap.size, 5, none⟩ = some (.slice B1 LB.length c2)) (go_keep) ((go_at_call 77; (with_reducible refine (part_s d true l n LA LB A LA.length ca B LB.length cb n (m2 - 1) _ hn00 (by omega) (by omega) HP.out).mono ?_); rintro e w3 ⟨rfl, hb3⟩; have hb3 : Below W8.heap.size W8 w3 := ⟨hb3.os, hb3.tape, hb3.output, hb3.size, hb3.block⟩; have hs3 := hb3.size; have HZ3 := hid_of (HZ8.out.under hb3 (by omega)); have HR3 := hid_of (HR8.out.under hb3 (by omega)); have HQ3 := hid_of (HQ8.out.under hb3 (by omega)); have HO3 := hid_of (HO8.out.under hb3 (by omega)); obtain ⟨⟨z0, z1, z2, z3, z4, z5⟩, zf⟩ := HZ3.out; obtain ⟨⟨r0, r1, r2, r3, r4, r5⟩, rf⟩ := HR3.out; obtain ⟨⟨q0, q1, q2⟩, qf⟩ := HQ3.out; obtain ⟨⟨o0, o1, o2, o3, o4, o5⟩, of⟩ := HO3.out))
  all_goals go_wp2_with fail
  all_goals
    try simp only [Exit.inBlock, Exit.then]
    refine bodyPost_ret (results_spb rfl rfl rfl rfl (((((HR3.out.setAll d true l (m2) A1 LA.length c1 B1 LB.length c2).other (by dsimp only; omega) _).other (by dsimp only; omega) _).other (by dsimp only; omega) _)) (((((((HQ3.out.other (by dsimp only; omega) _).other (by dsimp only; omega) _).other (by dsimp only; omega) _).other (by dsimp only; omega) _).other (by dsimp only; omega) _).other (by dsimp only; omega) _).setAll p.o p.d p.f)) rfl ?_
    rw [HRR.out, HP.out]
    refine ⟨⟨_, rfl, A1, c1, B1, c2, rfl, ?_, ?_, hap⟩, ?_⟩
    · refine RngIn.mono (B := w.heap.size + 1 + 1 + 1) (S := w1.heap.size) ?_ (by omega) (by simp [World.setCell]; omega)
      repeat refine RngIn.setLow ?_ (by dsimp only; omega) _
      exact hI1.below hb3
    · refine RngIn.mono (B := w.heap.size + 1 + 1 + 1) (S := w1.heap.size) ?_ (by omega) (by simp [World.setCell]; omega)
      repeat refine RngIn.setLow ?_ (by dsimp only; omega) _
      exact hJ1.below hb3
    · repeat refine Below.setCell ?_ (by dsimp only; omega) _
      exact hw8.trans (hb3.mono (by omega))

end Go.Proofs.Ytmkmaeblnnfheab
