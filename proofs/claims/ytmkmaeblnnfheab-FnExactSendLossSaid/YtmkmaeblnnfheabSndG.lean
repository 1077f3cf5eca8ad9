/- The next part, nothing lost: nothing is sent. -/
import Derived.Test.YtmkmaeblnnfheabSndM
namespace Go.Proofs.Ytmkmaeblnnfheab
open Go.RowKit
attribute [local irreducible] Go.wpQuiet
attribute [local go_sem] run_min3

set_option linter.unusedVariables false in
set_option maxRecDepth 100000 in
set_option maxHeartbeats 4000000 in
theorem next_none_f (d : ByteArray) (l n : Int) (LA LB : List Rg) (A : Option Addr) (ca : Nat) (B : Option Addr) (cb : Nat) (k : Int) (w : World) (hA : RngAt w A LA.length LA) (hB : RngAt w B LB.length LB) (eA : A = none → ca = 0) (eB : B = none → cb = 0) (hn : LA.length ≤ 100000) (hn' : LB.length ≤ 100000)
    (hk : 1 ≤ k ∧ k ≤ 1000) (hd : d.size ≤ 1000) (hl : -1000 ≤ l ∧ l ≤ 1000) (hn0 : 0 ≤ n ∧ n ≤ 1000) (hL : LB = []) (m1 m2 : Int) (hm1 : (if l < (d.size : Int) then l else (d.size : Int)) = m1) (hm2 : (if n + k < m1 then n + k else m1) = m2)  (hle : m2 ≤ n) (r : Sd × Pt × Bool) (hr : r = (⟨d, false, l, n, LA, LB⟩, pt0, false)) :
    Calls Try.prog 54 #[.agg #[.string d, .bool false, .int .i64 l, .int .i64 n, .slice A LA.length ca, .slice B LB.length cb], .int .i64 k] w (GotNext w r) := by
  have HRR := hid_of hr
  clear hr
  have hmb : -1000 ≤ m2 ∧ m2 ≤ 1000 ∧ m2 ≤ d.size := by
    have e1 : m1 = min l (d.size : Int) := by rw [← hm1]; split <;> omega
    have e2 : m2 = min (n + k) m1 := by rw [← hm2]; split <;> omega
    omega
  obtain ⟨hmb0, hmb1, hmb2⟩ := hmb
  have hnp : ¬ 0 < LB.length := by rw [hL]; simp
  clear hL
  obtain rfl : m1 = m2 := by have e2 : m2 = min (n + k) m1 := (by rw [← hm2]; split <;> omega); omega
  obtain ⟨hk0, hk1⟩ := hk
  obtain ⟨hl0, hl1⟩ := hl
  obtain ⟨hn00, hn01⟩ := hn0
  have z := ((Own6.new (d := d) (f := false) (l := l) (n := n) (A := A) (na := LA.length) (ca := ca) (B := B) (nb := LB.length) (cb := cb) w).alloc (.cells #[.string (⟨#[]⟩ : ByteArray), .bool false, .int .i64 0, .int .i64 0, .slice none 0 0, .slice none 0 0] 25)).alloc (.cells #[.int .i64 0, .string (⟨#[]⟩ : ByteArray), .bool false] 29)
  have r := (Own6.new (d := (⟨#[]⟩ : ByteArray)) (f := false) (l := 0) (n := 0) (A := none) (na := 0) (ca := 0) (B := none) (nb := 0) (cb := 0) (w.alloc (.cells #[.string d, .bool false, .int .i64 l, .int .i64 n, .slice A LA.length ca, .slice B LB.length cb] 25))).alloc (.cells #[.int .i64 0, .string (⟨#[]⟩ : ByteArray), .bool false] 29)
  have q := Own3.new ((w.alloc (.cells #[.string d, .bool false, .int .i64 l, .int .i64 n, .slice A LA.length ca, .slice B LB.length cb] 25)).alloc (.cells #[.string (⟨#[]⟩ : ByteArray), .bool false, .int .i64 0, .int .i64 0, .slice none 0 0, .slice none 0 0] 25)) 0 (⟨#[]⟩ : ByteArray) false
  rw [show (w.alloc (.cells #[.string d, .bool false, .int .i64 l, .int .i64 n, .slice A LA.length ca, .slice B LB.length cb] 25)).heap.size = w.heap.size + 1 from by simp] at r
  rw [show ((w.alloc (.cells #[.string d, .bool false, .int .i64 l, .int .i64 n, .slice A LA.length ca, .slice B LB.length cb] 25)).alloc (.cells #[.string (⟨#[]⟩ : ByteArray), .bool false, .int .i64 0, .int .i64 0, .slice none 0 0, .slice none 0 0] 25)).heap.size = w.heap.size + 1 + 1 from by simp] at q
  have hW0 : Below w.heap.size w _ := (((Below.refl _ w).alloc (Nat.le_refl _) (.cells #[.string d, .bool false, .int .i64 l, .int .i64 n, .slice A LA.length ca, .slice B LB.length cb] 25)).alloc (by simp) (.cells #[.string (⟨#[]⟩ : ByteArray), .bool false, .int .i64 0, .int .i64 0, .slice none 0 0, .slice none 0 0] 25)).alloc (by simp; omega) (.cells #[.int .i64 0, .string (⟨#[]⟩ : ByteArray), .bool false] 29)
  have hsz : (((w.alloc (.cells #[.string d, .bool false, .int .i64 l, .int .i64 n, .slice A LA.length ca, .slice B LB.length cb] 25)).alloc (.cells #[.string (⟨#[]⟩ : ByteArray), .bool false, .int .i64 0, .int .i64 0, .slice none 0 0, .slice none 0 0] 25)).alloc (.cells #[.int .i64 0, .string (⟨#[]⟩ : ByteArray), .bool false] 29)).heap.size = w.heap.size + 1 + 1 + 1 := by simp
  go_enter Try.func54, Try.ntmps54
  go_wp2_with (go_at_call 69; go_loud ((with_reducible refine (copy_s d false l n LA LB A ca B cb _ (hA.below hW0) (hB.below hW0) eA eB (by omega) (by omega)).mono ?_); rintro e w1 ⟨⟨_, rfl, A1, c1, B1, c2, rfl, hI1, hJ1, hap⟩, hb1⟩; have hI1 : RngIn w1 (w.heap.size + 1 + 1 + 1) w1.heap.size A1 LA.length c1 LA := (by rw [hsz] at hI1; exact hI1); have hJ1 : RngIn w1 (w.heap.size + 1 + 1 + 1) w1.heap.size B1 LB.length c2 LB := (by rw [hsz] at hJ1; exact hJ1); have z1 := z.under hb1 (by omega); have r1 := r.under hb1 (by omega); have q1 := q.under hb1 (by omega); have hw1 := hW0.trans (hb1.mono hW0.size); have hs1 : w.heap.size + 1 + 1 + 1 ≤ w1.heap.size := (by have := hb1.size; omega); have lt1 : w.heap.size < w1.heap.size := (by omega); have lt2 : w.heap.size + 1 < w1.heap.size := (by omega); have lt3 : w.heap.size + 1 + 1 < w1.heap.size := (by omega); have HZ := hid_of z1; have HR := hid_of r1; have HQ := hid_of q1; obtain ⟨⟨z0, z1, z2, z3, z4, z5⟩, zf⟩ := z1; obtain ⟨⟨r0, r1, r2, r3, r4, r5⟩, rf⟩ := r1; obtain ⟨⟨q0, q1, q2⟩, qf⟩ := q1; clear z r q; have ra := fun o => (HR.out.alloc o).1; have rb := fun o => (HR.out.alloc o).2; have ra0 := fun o => (ra o).1; have ra1 := fun o => (ra o).2.1; have ra2 := fun o => (ra o).2.2.1; have ra3 := fun o => (ra o).2.2.2.1; have ra4 := fun o => (ra o).2.2.2.2.1; have ra5 := fun o => (ra o).2.2.2.2.2; have qa0 := fun o => (HQ.out.alloc o).1.1; have qa1 := fun o => (HQ.out.alloc o).1.2.1; have qa2 := fun o => (HQ.out.alloc o).1.2.2; have qb := fun o => (HQ.out.alloc o).2; clear ra lt2 lt3 r0 r1 r2 r3 r4 r5 rf q0 q1 q2 qf))
  try simp only [Exit.inBlock, Exit.then]
  have HO := hid_of (Own6.new (d := d) (f := false) (l := l) (n := n) (A := A1) (na := LA.length) (ca := c1) (B := B1) (nb := LB.length) (cb := c2) w1)
  have HR1 := hid_of (HR.out.alloc (.cells #[.string d, .bool false, .int .i64 l, .int .i64 n, .slice A1 LA.length c1, .slice B1 LB.length c2] 25))
  have HQ1 := hid_of (HQ.out.alloc (.cells #[.string d, .bool false, .int .i64 l, .int .i64 n, .slice A1 LA.length c1, .slice B1 LB.length c2] 25))
  refine bodyPost_ret (results_spb rfl rfl rfl rfl (((((HR1.out.setAll d false l n A1 LA.length c1 B1 LB.length c2).other (by dsimp only; omega) _).other (by dsimp only; omega) _).other (by dsimp only; omega) _)) (((((((HQ1.out.other (by dsimp only; omega) _).other (by dsimp only; omega) _).other (by dsimp only; omega) _).other (by dsimp only; omega) _).other (by dsimp only; omega) _).other (by dsimp only; omega) _).setAll 0 ⟨#[]⟩ false)) rfl ?_
  rw [HRR.out]
  refine ⟨⟨_, rfl, A1, c1, B1, c2, rfl, ?_, ?_, hap⟩, ?_⟩
  · refine RngIn.mono (B := w.heap.size + 1 + 1 + 1) (S := w1.heap.size) ?_ (by omega) (by simp [World.setCell])
    repeat refine RngIn.setLow ?_ (by dsimp only; omega) _
    exact hI1.alloc _
  · refine RngIn.mono (B := w.heap.size + 1 + 1 + 1) (S := w1.heap.size) ?_ (by omega) (by simp [World.setCell])
    repeat refine RngIn.setLow ?_ (by dsimp only; omega) _
    exact hJ1.alloc _
  · repeat refine Below.setCell ?_ (by dsimp only; omega) _
    exact ba hw1 _

set_option linter.unusedVariables false in
set_option maxRecDepth 100000 in
set_option maxHeartbeats 4000000 in
theorem next_none_t1 (d : ByteArray) (l n : Int) (LA LB : List Rg) (A : Option Addr) (ca : Nat) (B : Option Addr) (cb : Nat) (k : Int) (w : World) (hA : RngAt w A LA.length LA) (hB : RngAt w B LB.length LB) (eA : A = none → ca = 0) (eB : B = none → cb = 0) (hn : LA.length ≤ 100000) (hn' : LB.length ≤ 100000)
    (hk : 1 ≤ k ∧ k ≤ 1000) (hd : d.size ≤ 1000) (hl : -1000 ≤ l ∧ l ≤ 1000) (hn0 : 0 ≤ n ∧ n ≤ 1000) (hL : LB = []) (m1 m2 : Int) (hm1 : (if l < (d.size : Int) then l else (d.size : Int)) = m1) (hm2 : (if n + k < m1 then n + k else m1) = m2) (hE : (m2 == (d.size : Int)) = true) (hle : m2 + 1 ≤ n) (r : Sd × Pt × Bool) (hr : r = (⟨d, true, l, n, LA, LB⟩, pt0, false)) :
    Calls Try.prog 54 #[.agg #[.string d, .bool true, .int .i64 l, .int .i64 n, .slice A LA.length ca, .slice B LB.length cb], .int .i64 k] w (GotNext w r) := by
  have HRR := hid_of hr
  clear hr
  have hmb : -1000 ≤ m2 ∧ m2 ≤ 1000 ∧ m2 ≤ d.size := by
    have e1 : m1 = min l (d.size : Int) := by rw [← hm1]; split <;> omega
    have e2 : m2 = min (n + k) m1 := by rw [← hm2]; split <;> omega
    omega
  obtain ⟨hmb0, hmb1, hmb2⟩ := hmb
  have hnp : ¬ 0 < LB.length := by rw [hL]; simp
  clear hL
  obtain rfl : m1 = m2 := by have e2 : m2 = min (n + k) m1 := (by rw [← hm2]; split <;> omega); omega
  obtain ⟨hk0, hk1⟩ := hk
  obtain ⟨hl0, hl1⟩ := hl
  obtain ⟨hn00, hn01⟩ := hn0
  have z := ((Own6.new (d := d) (f := true) (l := l) (n := n) (A := A) (na := LA.length) (ca := ca) (B := B) (nb := LB.length) (cb := cb) w).alloc (.cells #[.string (⟨#[]⟩ : ByteArray), .bool false, .int .i64 0, .int .i64 0, .slice none 0 0, .slice none 0 0] 25)).alloc (.cells #[.int .i64 0, .string (⟨#[]⟩ : ByteArray), .bool false] 29)
  have r := (Own6.new (d := (⟨#[]⟩ : ByteArray)) (f := false) (l := 0) (n := 0) (A := none) (na := 0) (ca := 0) (B := none) (nb := 0) (cb := 0) (w.alloc (.cells #[.string d, .bool true, .int .i64 l, .int .i64 n, .slice A LA.length ca, .slice B LB.length cb] 25))).alloc (.cells #[.int .i64 0, .string (⟨#[]⟩ : ByteArray), .bool false] 29)
  have q := Own3.new ((w.alloc (.cells #[.string d, .bool true, .int .i64 l, .int .i64 n, .slice A LA.length ca, .slice B LB.length cb] 25)).alloc (.cells #[.string (⟨#[]⟩ : ByteArray), .bool false, .int .i64 0, .int .i64 0, .slice none 0 0, .slice none 0 0] 25)) 0 (⟨#[]⟩ : ByteArray) false
  rw [show (w.alloc (.cells #[.string d, .bool true, .int .i64 l, .int .i64 n, .slice A LA.length ca, .slice B LB.length cb] 25)).heap.size = w.heap.size + 1 from by simp] at r
  rw [show ((w.alloc (.cells #[.string d, .bool true, .int .i64 l, .int .i64 n, .slice A LA.length ca, .slice B LB.length cb] 25)).alloc (.cells #[.string (⟨#[]⟩ : ByteArray), .bool false, .int .i64 0, .int .i64 0, .slice none 0 0, .slice none 0 0] 25)).heap.size = w.heap.size + 1 + 1 from by simp] at q
  have hW0 : Below w.heap.size w _ := (((Below.refl _ w).alloc (Nat.le_refl _) (.cells #[.string d, .bool true, .int .i64 l, .int .i64 n, .slice A LA.length ca, .slice B LB.length cb] 25)).alloc (by simp) (.cells #[.string (⟨#[]⟩ : ByteArray), .bool false, .int .i64 0, .int .i64 0, .slice none 0 0, .slice none 0 0] 25)).alloc (by simp; omega) (.cells #[.int .i64 0, .string (⟨#[]⟩ : ByteArray), .bool false] 29)
  have hsz : (((w.alloc (.cells #[.string d, .bool true, .int .i64 l, .int .i64 n, .slice A LA.length ca, .slice B LB.length cb] 25)).alloc (.cells #[.string (⟨#[]⟩ : ByteArray), .bool false, .int .i64 0, .int .i64 0, .slice none 0 0, .slice none 0 0] 25)).alloc (.cells #[.int .i64 0, .string (⟨#[]⟩ : ByteArray), .bool false] 29)).heap.size = w.heap.size + 1 + 1 + 1 := by simp
  go_enter Try.func54, Try.ntmps54
  go_wp2_with (go_at_call 69; go_loud ((with_reducible refine (copy_s d true l n LA LB A ca B cb _ (hA.below hW0) (hB.below hW0) eA eB (by omega) (by omega)).mono ?_); rintro e w1 ⟨⟨_, rfl, A1, c1, B1, c2, rfl, hI1, hJ1, hap⟩, hb1⟩; have hI1 : RngIn w1 (w.heap.size + 1 + 1 + 1) w1.heap.size A1 LA.length c1 LA := (by rw [hsz] at hI1; exact hI1); have hJ1 : RngIn w1 (w.heap.size + 1 + 1 + 1) w1.heap.size B1 LB.length c2 LB := (by rw [hsz] at hJ1; exact hJ1); have z1 := z.under hb1 (by omega); have r1 := r.under hb1 (by omega); have q1 := q.under hb1 (by omega); have hw1 := hW0.trans (hb1.mono hW0.size); have hs1 : w.heap.size + 1 + 1 + 1 ≤ w1.heap.size := (by have := hb1.size; omega); have lt1 : w.heap.size < w1.heap.size := (by omega); have lt2 : w.heap.size + 1 < w1.heap.size := (by omega); have lt3 : w.heap.size + 1 + 1 < w1.heap.size := (by omega); have HZ := hid_of z1; have HR := hid_of r1; have HQ := hid_of q1; obtain ⟨⟨z0, z1, z2, z3, z4, z5⟩, zf⟩ := z1; obtain ⟨⟨r0, r1, r2, r3, r4, r5⟩, rf⟩ := r1; obtain ⟨⟨q0, q1, q2⟩, qf⟩ := q1; clear z r q; have ra := fun o => (HR.out.alloc o).1; have rb := fun o => (HR.out.alloc o).2; have ra0 := fun o => (ra o).1; have ra1 := fun o => (ra o).2.1; have ra2 := fun o => (ra o).2.2.1; have ra3 := fun o => (ra o).2.2.2.1; have ra4 := fun o => (ra o).2.2.2.2.1; have ra5 := fun o => (ra o).2.2.2.2.2; have qa0 := fun o => (HQ.out.alloc o).1.1; have qa1 := fun o => (HQ.out.alloc o).1.2.1; have qa2 := fun o => (HQ.out.alloc o).1.2.2; have qb := fun o => (HQ.out.alloc o).2; clear ra lt2 lt3 r0 r1 r2 r3 r4 r5 rf q0 q1 q2 qf))
  try simp only [Exit.inBlock, Exit.then]
  have HO := hid_of (Own6.new (d := d) (f := true) (l := l) (n := n) (A := A1) (na := LA.length) (ca := c1) (B := B1) (nb := LB.length) (cb := c2) w1)
  have HR1 := hid_of (HR.out.alloc (.cells #[.string d, .bool true, .int .i64 l, .int .i64 n, .slice A1 LA.length c1, .slice B1 LB.length c2] 25))
  have HQ1 := hid_of (HQ.out.alloc (.cells #[.string d, .bool true, .int .i64 l, .int .i64 n, .slice A1 LA.length c1, .slice B1 LB.length c2] 25))
  refine bodyPost_ret (results_spb rfl rfl rfl rfl (((((HR1.out.setAll d true l n A1 LA.length c1 B1 LB.length c2).other (by dsimp only; omega) _).other (by dsimp only; omega) _).other (by dsimp only; omega) _)) (((((((HQ1.out.other (by dsimp only; omega) _).other (by dsimp only; omega) _).other (by dsimp only; omega) _).other (by dsimp only; omega) _).other (by dsimp only; omega) _).other (by dsimp only; omega) _).setAll 0 ⟨#[]⟩ false)) rfl ?_
  rw [HRR.out]
  refine ⟨⟨_, rfl, A1, c1, B1, c2, rfl, ?_, ?_, hap⟩, ?_⟩
  · refine RngIn.mono (B := w.heap.size + 1 + 1 + 1) (S := w1.heap.size) ?_ (by omega) (by simp [World.setCell])
    repeat refine RngIn.setLow ?_ (by dsimp only; omega) _
    exact hI1.alloc _
  · refine RngIn.mono (B := w.heap.size + 1 + 1 + 1) (S := w1.heap.size) ?_ (by omega) (by simp [World.setCell])
    repeat refine RngIn.setLow ?_ (by dsimp only; omega) _
    exact hJ1.alloc _
  · repeat refine Below.setCell ?_ (by dsimp only; omega) _
    exact ba hw1 _

set_option linter.unusedVariables false in
set_option maxRecDepth 100000 in
set_option maxHeartbeats 4000000 in
theorem next_none_t2 (d : ByteArray) (l n : Int) (LA LB : List Rg) (A : Option Addr) (ca : Nat) (B : Option Addr) (cb : Nat) (k : Int) (w : World) (hA : RngAt w A LA.length LA) (hB : RngAt w B LB.length LB) (eA : A = none → ca = 0) (eB : B = none → cb = 0) (hn : LA.length ≤ 100000) (hn' : LB.length ≤ 100000)
    (hk : 1 ≤ k ∧ k ≤ 1000) (hd : d.size ≤ 1000) (hl : -1000 ≤ l ∧ l ≤ 1000) (hn0 : 0 ≤ n ∧ n ≤ 1000) (hL : LB = []) (m1 m2 : Int) (hm1 : (if l < (d.size : Int) then l else (d.size : Int)) = m1) (hm2 : (if n + k < m1 then n + k else m1) = m2) (hE : (m2 == (d.size : Int)) = false) (hle : m2 ≤ n) (r : Sd × Pt × Bool) (hr : r = (⟨d, true, l, n, LA, LB⟩, pt0, false)) :
    Calls Try.prog 54 #[.agg #[.string d, .bool true, .int .i64 l, .int .i64 n, .slice A LA.length ca, .slice B LB.length cb], .int .i64 k] w (GotNext w r) := by
  have HRR := hid_of hr
  clear hr
  have hmb : -1000 ≤ m2 ∧ m2 ≤ 1000 ∧ m2 ≤ d.size := by
    have e1 : m1 = min l (d.size : Int) := by rw [← hm1]; split <;> omega
    have e2 : m2 = min (n + k) m1 := by rw [← hm2]; split <;> omega
    omega
  obtain ⟨hmb0, hmb1, hmb2⟩ := hmb
  have hnp : ¬ 0 < LB.length := by rw [hL]; simp
  clear hL
  obtain rfl : m1 = m2 := by have e2 : m2 = min (n + k) m1 := (by rw [← hm2]; split <;> omega); omega
  obtain ⟨hk0, hk1⟩ := hk
  obtain ⟨hl0, hl1⟩ := hl
  obtain ⟨hn00, hn01⟩ := hn0
  have z := ((Own6.new (d := d) (f := true) (l := l) (n := n) (A := A) (na := LA.length) (ca := ca) (B := B) (nb := LB.length) (cb := cb) w).alloc (.cells #[.string (⟨#[]⟩ : ByteArray), .bool false, .int .i64 0, .int .i64 0, .slice none 0 0, .slice none 0 0] 25)).alloc (.cells #[.int .i64 0, .string (⟨#[]⟩ : ByteArray), .bool false] 29)
  have r := (Own6.new (d := (⟨#[]⟩ : ByteArray)) (f := false) (l := 0) (n := 0) (A := none) (na := 0) (ca := 0) (B := none) (nb := 0) (cb := 0) (w.alloc (.cells #[.string d, .bool true, .int .i64 l, .int .i64 n, .slice A LA.length ca, .slice B LB.length cb] 25))).alloc (.cells #[.int .i64 0, .string (⟨#[]⟩ : ByteArray), .bool false] 29)
  have q := Own3.new ((w.alloc (.cells #[.string d, .bool true, .int .i64 l, .int .i64 n, .slice A LA.length ca, .slice B LB.length cb] 25)).alloc (.cells #[.string (⟨#[]⟩ : ByteArray), .bool false, .int .i64 0, .int .i64 0, .slice none 0 0, .slice none 0 0] 25)) 0 (⟨#[]⟩ : ByteArray) false
  rw [show (w.alloc (.cells #[.string d, .bool true, .int .i64 l, .int .i64 n, .slice A LA.length ca, .slice B LB.length cb] 25)).heap.size = w.heap.size + 1 from by simp] at r
  rw [show ((w.alloc (.cells #[.string d, .bool true, .int .i64 l, .int .i64 n, .slice A LA.length ca, .slice B LB.length cb] 25)).alloc (.cells #[.string (⟨#[]⟩ : ByteArray), .bool false, .int .i64 0, .int .i64 0, .slice none 0 0, .slice none 0 0] 25)).heap.size = w.heap.size + 1 + 1 from by simp] at q
  have hW0 : Below w.heap.size w _ := (((Below.refl _ w).alloc (Nat.le_refl _) (.cells #[.string d, .bool true, .int .i64 l, .int .i64 n, .slice A LA.length ca, .slice B LB.length cb] 25)).alloc (by simp) (.cells #[.string (⟨#[]⟩ : ByteArray), .bool false, .int .i64 0, .int .i64 0, .slice none 0 0, .slice none 0 0] 25)).alloc (by simp; omega) (.cells #[.int .i64 0, .string (⟨#[]⟩ : ByteArray), .bool false] 29)
  have hsz : (((w.alloc (.cells #[.string d, .bool true, .int .i64 l, .int .i64 n, .slice A LA.length ca, .slice B LB.length cb] 25)).alloc (.cells #[.string (⟨#[]⟩ : ByteArray), .bool false, .int .i64 0, .int .i64 0, .slice none 0 0, .slice none 0 0] 25)).alloc (.cells #[.int .i64 0, .string (⟨#[]⟩ : ByteArray), .bool false] 29)).heap.size = w.heap.size + 1 + 1 + 1 := by simp
  go_enter Try.func54, Try.ntmps54
  go_wp2_with (go_at_call 69; go_loud ((with_reducible refine (copy_s d true l n LA LB A ca B cb _ (hA.below hW0) (hB.below hW0) eA eB (by omega) (by omega)).mono ?_); rintro e w1 ⟨⟨_, rfl, A1, c1, B1, c2, rfl, hI1, hJ1, hap⟩, hb1⟩; have hI1 : RngIn w1 (w.heap.size + 1 + 1 + 1) w1.heap.size A1 LA.length c1 LA := (by rw [hsz] at hI1; exact hI1); have hJ1 : RngIn w1 (w.heap.size + 1 + 1 + 1) w1.heap.size B1 LB.length c2 LB := (by rw [hsz] at hJ1; exact hJ1); have z1 := z.under hb1 (by omega); have r1 := r.under hb1 (by omega); have q1 := q.under hb1 (by omega); have hw1 := hW0.trans (hb1.mono hW0.size); have hs1 : w.heap.size + 1 + 1 + 1 ≤ w1.heap.size := (by have := hb1.size; omega); have lt1 : w.heap.size < w1.heap.size := (by omega); have lt2 : w.heap.size + 1 < w1.heap.size := (by omega); have lt3 : w.heap.size + 1 + 1 < w1.heap.size := (by omega); have HZ := hid_of z1; have HR := hid_of r1; have HQ := hid_of q1; obtain ⟨⟨z0, z1, z2, z3, z4, z5⟩, zf⟩ := z1; obtain ⟨⟨r0, r1, r2, r3, r4, r5⟩, rf⟩ := r1; obtain ⟨⟨q0, q1, q2⟩, qf⟩ := q1; clear z r q; have ra := fun o => (HR.out.alloc o).1; have rb := fun o => (HR.out.alloc o).2; have ra0 := fun o => (ra o).1; have ra1 := fun o => (ra o).2.1; have ra2 := fun o => (ra o).2.2.1; have ra3 := fun o => (ra o).2.2.2.1; have ra4 := fun o => (ra o).2.2.2.2.1; have ra5 := fun o => (ra o).2.2.2.2.2; have qa0 := fun o => (HQ.out.alloc o).1.1; have qa1 := fun o => (HQ.out.alloc o).1.2.1; have qa2 := fun o => (HQ.out.alloc o).1.2.2; have qb := fun o => (HQ.out.alloc o).2; clear ra lt2 lt3 r0 r1 r2 r3 r4 r5 rf q0 q1 q2 qf))
  try simp only [Exit.inBlock, Exit.then]
  have HO := hid_of (Own6.new (d := d) (f := true) (l := l) (n := n) (A := A1) (na := LA.length) (ca := c1) (B := B1) (nb := LB.length) (cb := c2) w1)
  have HR1 := hid_of (HR.out.alloc (.cells #[.string d, .bool true, .int .i64 l, .int .i64 n, .slice A1 LA.length c1, .slice B1 LB.length c2] 25))
  have HQ1 := hid_of (HQ.out.alloc (.cells #[.string d, .bool true, .int .i64 l, .int .i64 n, .slice A1 LA.length c1, .slice B1 LB.length c2] 25))
  refine bodyPost_ret (results_spb rfl rfl rfl rfl (((((HR1.out.setAll d true l n A1 LA.length c1 B1 LB.length c2).other (by dsimp only; omega) _).other (by dsimp only; omega) _).other (by dsimp only; omega) _)) (((((((HQ1.out.other (by dsimp only; omega) _).other (by dsimp only; omega) _).other (by dsimp only; omega) _).other (by dsimp only; omega) _).other (by dsimp only; omega) _).other (by dsimp only; omega) _).setAll 0 ⟨#[]⟩ false)) rfl ?_
  rw [HRR.out]
  refine ⟨⟨_, rfl, A1, c1, B1, c2, rfl, ?_, ?_, hap⟩, ?_⟩
  · refine RngIn.mono (B := w.heap.size + 1 + 1 + 1) (S := w1.heap.size) ?_ (by omega) (by simp [World.setCell])
    repeat refine RngIn.setLow ?_ (by dsimp only; omega) _
    exact hI1.alloc _
  · refine RngIn.mono (B := w.heap.size + 1 + 1 + 1) (S := w1.heap.size) ?_ (by omega) (by simp [World.setCell])
    repeat refine RngIn.setLow ?_ (by dsimp only; omega) _
    exact hJ1.alloc _
  · repeat refine Below.setCell ?_ (by dsimp only; omega) _
    exact ba hw1 _

end Go.Proofs.Ytmkmaeblnnfheab
