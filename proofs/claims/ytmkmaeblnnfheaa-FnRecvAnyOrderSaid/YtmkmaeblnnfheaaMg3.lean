/- Merged: SndM, SndG, SndH, SndN, SndP, NextLaws, Draw, Draw2, Prt, Draw3. -/
import Derived.Test.YtmkmaeblnnfheaaSndE
import Derived.Test.YtmkmaeblnnfheaaSndF
import Derived.Test.YtmkmaeblnnfheaaSndI
import Derived.Test.YtmkmaeblnnfheaaSndV
import Derived.Test.YtmkmaeblnnfheaaMg1
import Derived.Test.YtmkmaeblnnfheaaChecked
import Derived.WalkKit
import Derived.KernelRfl
import Derived.Handy
import Derived.Lib.Hide
import Derived.BigQuiet
import Derived.Laws.BitsAllLaws
import Derived.Laws.BitsLemmas
/- The least of three numbers. -/
namespace Go.Proofs.Ytmkmaeblnnfheaa
open Go.RowKit
theorem run_min3 (ats : Array TypeId) (ty : TypeId) (a b c : Int) (w : World) : (Builtin.min_ ats ty #[.int .i64 a, .int .i64 b, .int .i64 c]).run Try.prog w = .ok (.int .i64 (if c < (if b < a then b else a) then c else (if b < a then b else a))) w := by
  show Sem.run _ (List.foldlM Builtin.min2 (.int .i64 a) [.int .i64 b, .int .i64 c]) w = _
  simp only [List.foldlM]
  simp [Builtin.min2]
theorem run_min3_v {ats : Array TypeId} {ty : TypeId} {a b c m1 m2 : Int} (h1 : (if b < a then b else a) = m1) (h2 : (if c < m1 then c else m1) = m2) (w : World) : (Builtin.min_ ats ty #[.int .i64 a, .int .i64 b, .int .i64 c]).run Try.prog w = .ok (.int .i64 m2) w := by
  rw [run_min3, h1, h2]
end Go.Proofs.Ytmkmaeblnnfheaa
/- The next part, nothing lost: nothing is sent. -/
namespace Go.Proofs.Ytmkmaeblnnfheaa
open Go.RowKit
attribute [local irreducible] Go.wpQuiet
attribute [local go_sem] run_min3

set_option linter.unusedVariables false in
set_option maxRecDepth 100000 in
set_option maxHeartbeats 4000000 in
theorem next_none_f (d : ByteArray) (l n : Int) (LA LB : List Rg) (A : Option Addr) (ca : Nat) (B : Option Addr) (cb : Nat) (k : Int) (w : World) (hA : RngAt w A LA.length LA) (hB : RngAt w B LB.length LB) (eA : A = none → ca = 0) (eB : B = none → cb = 0) (hn : LA.length ≤ 100000) (hn' : LB.length ≤ 100000)
    (hk : 1 ≤ k ∧ k ≤ 1000) (hd : d.size ≤ 1000) (hl : -1000 ≤ l ∧ l ≤ 1000) (hn0 : 0 ≤ n ∧ n ≤ 1000) (hL : LB = []) (m1 m2 : Int) (hm1 : (if l < (d.size : Int) then l else (d.size : Int)) = m1) (hm2 : (if n + k < m1 then n + k else m1) = m2)  (hle : m2 ≤ n) (r : Sd × Pt × Bool) (hr : r = (⟨d, false, l, n, LA, LB⟩, pt0, false)) :
    Calls Try.prog 67 #[.agg #[.string d, .bool false, .int .i64 l, .int .i64 n, .slice A LA.length ca, .slice B LB.length cb], .int .i64 k] w (GotNext w r) := by
  have HRR := hid_of hr
  clear hr
  have hmb : -1000 ≤ m2 ∧ m2 ≤ 1000 ∧ m2 ≤ d.size := by
    have e1 : m1 = min l (d.size : Int) := by rw [← hm1]; split <;> omega
    have e2 : m2 = min (n + k) m1 := by rw [← hm2]; split <;> omega
    omega
  obtain ⟨hmb0, hmb1, hmb2⟩ := hmb
  have hnp : ¬ 0 < LB.length := by rw [hL]; simp
  clear hL
  obtain rfl : m1 = m2 := by have e2 : m2 = min (n + k) m1 := (by rw [← hm2]; split <;> omega); omega
  obtain ⟨hk0, hk1⟩ := hk
  obtain ⟨hl0, hl1⟩ := hl
  obtain ⟨hn00, hn01⟩ := hn0
  have z := ((Own6.new (d := d) (f := false) (l := l) (n := n) (A := A) (na := LA.length) (ca := ca) (B := B) (nb := LB.length) (cb := cb) w).alloc (.cells #[.string (⟨#[]⟩ : ByteArray), .bool false, .int .i64 0, .int .i64 0, .slice none 0 0, .slice none 0 0] 25)).alloc (.cells #[.int .i64 0, .string (⟨#[]⟩ : ByteArray), .bool false] 27)
  have r := (Own6.new (d := (⟨#[]⟩ : ByteArray)) (f := false) (l := 0) (n := 0) (A := none) (na := 0) (ca := 0) (B := none) (nb := 0) (cb := 0) (w.alloc (.cells #[.string d, .bool false, .int .i64 l, .int .i64 n, .slice A LA.length ca, .slice B LB.length cb] 25))).alloc (.cells #[.int .i64 0, .string (⟨#[]⟩ : ByteArray), .bool false] 27)
  have q := Own3.new ((w.alloc (.cells #[.string d, .bool false, .int .i64 l, .int .i64 n, .slice A LA.length ca, .slice B LB.length cb] 25)).alloc (.cells #[.string (⟨#[]⟩ : ByteArray), .bool false, .int .i64 0, .int .i64 0, .slice none 0 0, .slice none 0 0] 25)) 0 (⟨#[]⟩ : ByteArray) false
  rw [show (w.alloc (.cells #[.string d, .bool false, .int .i64 l, .int .i64 n, .slice A LA.length ca, .slice B LB.length cb] 25)).heap.size = w.heap.size + 1 from by simp] at r
  rw [show ((w.alloc (.cells #[.string d, .bool false, .int .i64 l, .int .i64 n, .slice A LA.length ca, .slice B LB.length cb] 25)).alloc (.cells #[.string (⟨#[]⟩ : ByteArray), .bool false, .int .i64 0, .int .i64 0, .slice none 0 0, .slice none 0 0] 25)).heap.size = w.heap.size + 1 + 1 from by simp] at q
  have hW0 : Below w.heap.size w _ := (((Below.refl _ w).alloc (Nat.le_refl _) (.cells #[.string d, .bool false, .int .i64 l, .int .i64 n, .slice A LA.length ca, .slice B LB.length cb] 25)).alloc (by simp) (.cells #[.string (⟨#[]⟩ : ByteArray), .bool false, .int .i64 0, .int .i64 0, .slice none 0 0, .slice none 0 0] 25)).alloc (by simp; omega) (.cells #[.int .i64 0, .string (⟨#[]⟩ : ByteArray), .bool false] 27)
  have hsz : (((w.alloc (.cells #[.string d, .bool false, .int .i64 l, .int .i64 n, .slice A LA.length ca, .slice B LB.length cb] 25)).alloc (.cells #[.string (⟨#[]⟩ : ByteArray), .bool false, .int .i64 0, .int .i64 0, .slice none 0 0, .slice none 0 0] 25)).alloc (.cells #[.int .i64 0, .string (⟨#[]⟩ : ByteArray), .bool false] 27)).heap.size = w.heap.size + 1 + 1 + 1 := by simp
  go_enter Try.func67, Try.ntmps67
  go_wp2_with (go_at_call 62; go_loud ((with_reducible refine (copy_s d false l n LA LB A ca B cb _ (hA.below hW0) (hB.below hW0) eA eB (by omega) (by omega)).mono ?_); rintro e w1 ⟨⟨_, rfl, A1, c1, B1, c2, rfl, hI1, hJ1, hap⟩, hb1⟩; have hI1 : RngIn w1 (w.heap.size + 1 + 1 + 1) w1.heap.size A1 LA.length c1 LA := (by rw [hsz] at hI1; exact hI1); have hJ1 : RngIn w1 (w.heap.size + 1 + 1 + 1) w1.heap.size B1 LB.length c2 LB := (by rw [hsz] at hJ1; exact hJ1); have z1 := z.under hb1 (by omega); have r1 := r.under hb1 (by omega); have q1 := q.under hb1 (by omega); have hw1 := hW0.trans (hb1.mono hW0.size); have hs1 : w.heap.size + 1 + 1 + 1 ≤ w1.heap.size := (by have := hb1.size; omega); have lt1 : w.heap.size < w1.heap.size := (by omega); have lt2 : w.heap.size + 1 < w1.heap.size := (by omega); have lt3 : w.heap.size + 1 + 1 < w1.heap.size := (by omega); have HZ := hid_of z1; have HR := hid_of r1; have HQ := hid_of q1; obtain ⟨⟨z0, z1, z2, z3, z4, z5⟩, zf⟩ := z1; obtain ⟨⟨r0, r1, r2, r3, r4, r5⟩, rf⟩ := r1; obtain ⟨⟨q0, q1, q2⟩, qf⟩ := q1; clear z r q; have ra := fun o => (HR.out.alloc o).1; have rb := fun o => (HR.out.alloc o).2; have ra0 := fun o => (ra o).1; have ra1 := fun o => (ra o).2.1; have ra2 := fun o => (ra o).2.2.1; have ra3 := fun o => (ra o).2.2.2.1; have ra4 := fun o => (ra o).2.2.2.2.1; have ra5 := fun o => (ra o).2.2.2.2.2; have qa0 := fun o => (HQ.out.alloc o).1.1; have qa1 := fun o => (HQ.out.alloc o).1.2.1; have qa2 := fun o => (HQ.out.alloc o).1.2.2; have qb := fun o => (HQ.out.alloc o).2; clear ra lt2 lt3 r0 r1 r2 r3 r4 r5 rf q0 q1 q2 qf))
  try simp only [Exit.inBlock, Exit.then]
  have HO := hid_of (Own6.new (d := d) (f := false) (l := l) (n := n) (A := A1) (na := LA.length) (ca := c1) (B := B1) (nb := LB.length) (cb := c2) w1)
  have HR1 := hid_of (HR.out.alloc (.cells #[.string d, .bool false, .int .i64 l, .int .i64 n, .slice A1 LA.length c1, .slice B1 LB.length c2] 25))
  have HQ1 := hid_of (HQ.out.alloc (.cells #[.string d, .bool false, .int .i64 l, .int .i64 n, .slice A1 LA.length c1, .slice B1 LB.length c2] 25))
  refine bodyPost_ret (results_spb rfl rfl rfl rfl (((((HR1.out.setAll d false l n A1 LA.length c1 B1 LB.length c2).other (by dsimp only; omega) _).other (by dsimp only; omega) _).other (by dsimp only; omega) _)) (((((((HQ1.out.other (by dsimp only; omega) _).other (by dsimp only; omega) _).other (by dsimp only; omega) _).other (by dsimp only; omega) _).other (by dsimp only; omega) _).other (by dsimp only; omega) _).setAll 0 ⟨#[]⟩ false)) rfl ?_
  rw [HRR.out]
  refine ⟨⟨_, rfl, A1, c1, B1, c2, rfl, ?_, ?_, hap⟩, ?_⟩
  · refine RngIn.mono (B := w.heap.size + 1 + 1 + 1) (S := w1.heap.size) ?_ (by omega) (by simp [World.setCell])
    repeat refine RngIn.setLow ?_ (by dsimp only; omega) _
    exact hI1.alloc _
  · refine RngIn.mono (B := w.heap.size + 1 + 1 + 1) (S := w1.heap.size) ?_ (by omega) (by simp [World.setCell])
    repeat refine RngIn.setLow ?_ (by dsimp only; omega) _
    exact hJ1.alloc _
  · repeat refine Below.setCell ?_ (by dsimp only; omega) _
    exact ba hw1 _

set_option linter.unusedVariables false in
set_option maxRecDepth 100000 in
set_option maxHeartbeats 4000000 in
theorem next_none_t1 (d : ByteArray) (l n : Int) (LA LB : List Rg) (A : Option Addr) (ca : Nat) (B : Option Addr) (cb : Nat) (k : Int) (w : World) (hA : RngAt w A LA.length LA) (hB : RngAt w B LB.length LB) (eA : A = none → ca = 0) (eB : B = none → cb = 0) (hn : LA.length ≤ 100000) (hn' : LB.length ≤ 100000)
    (hk : 1 ≤ k ∧ k ≤ 1000) (hd : d.size ≤ 1000) (hl : -1000 ≤ l ∧ l ≤ 1000) (hn0 : 0 ≤ n ∧ n ≤ 1000) (hL : LB = []) (m1 m2 : Int) (hm1 : (if l < (d.size : Int) then l else (d.size : Int)) = m1) (hm2 : (if n + k < m1 then n + k else m1) = m2) (hE : (m2 == (d.size : Int)) = true) (hle : m2 + 1 ≤ n) (r : Sd × Pt × Bool) (hr : r = (⟨d, true, l, n, LA, LB⟩, pt0, false)) :
    Calls Try.prog 67 #[.agg #[.string d, .bool true, .int .i64 l, .int .i64 n, .slice A LA.length ca, .slice B LB.length cb], .int .i64 k] w (GotNext w r) := by
  have HRR := hid_of hr
  clear hr
  have hmb : -1000 ≤ m2 ∧ m2 ≤ 1000 ∧ m2 ≤ d.size := by
    have e1 : m1 = min l (d.size : Int) := by rw [← hm1]; split <;> omega
    have e2 : m2 = min (n + k) m1 := by rw [← hm2]; split <;> omega
    omega
  obtain ⟨hmb0, hmb1, hmb2⟩ := hmb
  have hnp : ¬ 0 < LB.length := by rw [hL]; simp
  clear hL
  obtain rfl : m1 = m2 := by have e2 : m2 = min (n + k) m1 := (by rw [← hm2]; split <;> omega); omega
  obtain ⟨hk0, hk1⟩ := hk
  obtain ⟨hl0, hl1⟩ := hl
  obtain ⟨hn00, hn01⟩ := hn0
  have z := ((Own6.new (d := d) (f := true) (l := l) (n := n) (A := A) (na := LA.length) (ca := ca) (B := B) (nb := LB.length) (cb := cb) w).alloc (.cells #[.string (⟨#[]⟩ : ByteArray), .bool false, .int .i64 0, .int .i64 0, .slice none 0 0, .slice none 0 0] 25)).alloc (.cells #[.int .i64 0, .string (⟨#[]⟩ : ByteArray), .bool false] 27)
  have r := (Own6.new (d := (⟨#[]⟩ : ByteArray)) (f := false) (l := 0) (n := 0) (A := none) (na := 0) (ca := 0) (B := none) (nb := 0) (cb := 0) (w.alloc (.cells #[.string d, .bool true, .int .i64 l, .int .i64 n, .slice A LA.length ca, .slice B LB.length cb] 25))).alloc (.cells #[.int .i64 0, .string (⟨#[]⟩ : ByteArray), .bool false] 27)
  have q := Own3.new ((w.alloc (.cells #[.string d, .bool true, .int .i64 l, .int .i64 n, .slice A LA.length ca, .slice B LB.length cb] 25)).alloc (.cells #[.string (⟨#[]⟩ : ByteArray), .bool false, .int .i64 0, .int .i64 0, .slice none 0 0, .slice none 0 0] 25)) 0 (⟨#[]⟩ : ByteArray) false
  rw [show (w.alloc (.cells #[.string d, .bool true, .int .i64 l, .int .i64 n, .slice A LA.length ca, .slice B LB.length cb] 25)).heap.size = w.heap.size + 1 from by simp] at r
  rw [show ((w.alloc (.cells #[.string d, .bool true, .int .i64 l, .int .i64 n, .slice A LA.length ca, .slice B LB.length cb] 25)).alloc (.cells #[.string (⟨#[]⟩ : ByteArray), .bool false, .int .i64 0, .int .i64 0, .slice none 0 0, .slice none 0 0] 25)).heap.size = w.heap.size + 1 + 1 from by simp] at q
  have hW0 : Below w.heap.size w _ := (((Below.refl _ w).alloc (Nat.le_refl _) (.cells #[.string d, .bool true, .int .i64 l, .int .i64 n, .slice A LA.length ca, .slice B LB.length cb] 25)).alloc (by simp) (.cells #[.string (⟨#[]⟩ : ByteArray), .bool false, .int .i64 0, .int .i64 0, .slice none 0 0, .slice none 0 0] 25)).alloc (by simp; omega) (.cells #[.int .i64 0, .string (⟨#[]⟩ : ByteArray), .bool false] 27)
  have hsz : (((w.alloc (.cells #[.string d, .bool true, .int .i64 l, .int .i64 n, .slice A LA.length ca, .slice B LB.length cb] 25)).alloc (.cells #[.string (⟨#[]⟩ : ByteArray), .bool false, .int .i64 0, .int .i64 0, .slice none 0 0, .slice none 0 0] 25)).alloc (.cells #[.int .i64 0, .string (⟨#[]⟩ : ByteArray), .bool false] 27)).heap.size = w.heap.size + 1 + 1 + 1 := by simp
  go_enter Try.func67, Try.ntmps67
  go_wp2_with (go_at_call 62; go_loud ((with_reducible refine (copy_s d true l n LA LB A ca B cb _ (hA.below hW0) (hB.below hW0) eA eB (by omega) (by omega)).mono ?_); rintro e w1 ⟨⟨_, rfl, A1, c1, B1, c2, rfl, hI1, hJ1, hap⟩, hb1⟩; have hI1 : RngIn w1 (w.heap.size + 1 + 1 + 1) w1.heap.size A1 LA.length c1 LA := (by rw [hsz] at hI1; exact hI1); have hJ1 : RngIn w1 (w.heap.size + 1 + 1 + 1) w1.heap.size B1 LB.length c2 LB := (by rw [hsz] at hJ1; exact hJ1); have z1 := z.under hb1 (by omega); have r1 := r.under hb1 (by omega); have q1 := q.under hb1 (by omega); have hw1 := hW0.trans (hb1.mono hW0.size); have hs1 : w.heap.size + 1 + 1 + 1 ≤ w1.heap.size := (by have := hb1.size; omega); have lt1 : w.heap.size < w1.heap.size := (by omega); have lt2 : w.heap.size + 1 < w1.heap.size := (by omega); have lt3 : w.heap.size + 1 + 1 < w1.heap.size := (by omega); have HZ := hid_of z1; have HR := hid_of r1; have HQ := hid_of q1; obtain ⟨⟨z0, z1, z2, z3, z4, z5⟩, zf⟩ := z1; obtain ⟨⟨r0, r1, r2, r3, r4, r5⟩, rf⟩ := r1; obtain ⟨⟨q0, q1, q2⟩, qf⟩ := q1; clear z r q; have ra := fun o => (HR.out.alloc o).1; have rb := fun o => (HR.out.alloc o).2; have ra0 := fun o => (ra o).1; have ra1 := fun o => (ra o).2.1; have ra2 := fun o => (ra o).2.2.1; have ra3 := fun o => (ra o).2.2.2.1; have ra4 := fun o => (ra o).2.2.2.2.1; have ra5 := fun o => (ra o).2.2.2.2.2; have qa0 := fun o => (HQ.out.alloc o).1.1; have qa1 := fun o => (HQ.out.alloc o).1.2.1; have qa2 := fun o => (HQ.out.alloc o).1.2.2; have qb := fun o => (HQ.out.alloc o).2; clear ra lt2 lt3 r0 r1 r2 r3 r4 r5 rf q0 q1 q2 qf))
  try simp only [Exit.inBlock, Exit.then]
  have HO := hid_of (Own6.new (d := d) (f := true) (l := l) (n := n) (A := A1) (na := LA.length) (ca := c1) (B := B1) (nb := LB.length) (cb := c2) w1)
  have HR1 := hid_of (HR.out.alloc (.cells #[.string d, .bool true, .int .i64 l, .int .i64 n, .slice A1 LA.length c1, .slice B1 LB.length c2] 25))
  have HQ1 := hid_of (HQ.out.alloc (.cells #[.string d, .bool true, .int .i64 l, .int .i64 n, .slice A1 LA.length c1, .slice B1 LB.length c2] 25))
  refine bodyPost_ret (results_spb rfl rfl rfl rfl (((((HR1.out.setAll d true l n A1 LA.length c1 B1 LB.length c2).other (by dsimp only; omega) _).other (by dsimp only; omega) _).other (by dsimp only; omega) _)) (((((((HQ1.out.other (by dsimp only; omega) _).other (by dsimp only; omega) _).other (by dsimp only; omega) _).other (by dsimp only; omega) _).other (by dsimp only; omega) _).other (by dsimp only; omega) _).setAll 0 ⟨#[]⟩ false)) rfl ?_
  rw [HRR.out]
  refine ⟨⟨_, rfl, A1, c1, B1, c2, rfl, ?_, ?_, hap⟩, ?_⟩
  · refine RngIn.mono (B := w.heap.size + 1 + 1 + 1) (S := w1.heap.size) ?_ (by omega) (by simp [World.setCell])
    repeat refine RngIn.setLow ?_ (by dsimp only; omega) _
    exact hI1.alloc _
  · refine RngIn.mono (B := w.heap.size + 1 + 1 + 1) (S := w1.heap.size) ?_ (by omega) (by simp [World.setCell])
    repeat refine RngIn.setLow ?_ (by dsimp only; omega) _
    exact hJ1.alloc _
  · repeat refine Below.setCell ?_ (by dsimp only; omega) _
    exact ba hw1 _

set_option linter.unusedVariables false in
set_option maxRecDepth 100000 in
set_option maxHeartbeats 4000000 in
theorem next_none_t2 (d : ByteArray) (l n : Int) (LA LB : List Rg) (A : Option Addr) (ca : Nat) (B : Option Addr) (cb : Nat) (k : Int) (w : World) (hA : RngAt w A LA.length LA) (hB : RngAt w B LB.length LB) (eA : A = none → ca = 0) (eB : B = none → cb = 0) (hn : LA.length ≤ 100000) (hn' : LB.length ≤ 100000)
    (hk : 1 ≤ k ∧ k ≤ 1000) (hd : d.size ≤ 1000) (hl : -1000 ≤ l ∧ l ≤ 1000) (hn0 : 0 ≤ n ∧ n ≤ 1000) (hL : LB = []) (m1 m2 : Int) (hm1 : (if l < (d.size : Int) then l else (d.size : Int)) = m1) (hm2 : (if n + k < m1 then n + k else m1) = m2) (hE : (m2 == (d.size : Int)) = false) (hle : m2 ≤ n) (r : Sd × Pt × Bool) (hr : r = (⟨d, true, l, n, LA, LB⟩, pt0, false)) :
    Calls Try.prog 67 #[.agg #[.string d, .bool true, .int .i64 l, .int .i64 n, .slice A LA.length ca, .slice B LB.length cb], .int .i64 k] w (GotNext w r) := by
  have HRR := hid_of hr
  clear hr
  have hmb : -1000 ≤ m2 ∧ m2 ≤ 1000 ∧ m2 ≤ d.size := by
    have e1 : m1 = min l (d.size : Int) := by rw [← hm1]; split <;> omega
    have e2 : m2 = min (n + k) m1 := by rw [← hm2]; split <;> omega
    omega
  obtain ⟨hmb0, hmb1, hmb2⟩ := hmb
  have hnp : ¬ 0 < LB.length := by rw [hL]; simp
  clear hL
  obtain rfl : m1 = m2 := by have e2 : m2 = min (n + k) m1 := (by rw [← hm2]; split <;> omega); omega
  obtain ⟨hk0, hk1⟩ := hk
  obtain ⟨hl0, hl1⟩ := hl
  obtain ⟨hn00, hn01⟩ := hn0
  have z := ((Own6.new (d := d) (f := true) (l := l) (n := n) (A := A) (na := LA.length) (ca := ca) (B := B) (nb := LB.length) (cb := cb) w).alloc (.cells #[.string (⟨#[]⟩ : ByteArray), .bool false, .int .i64 0, .int .i64 0, .slice none 0 0, .slice none 0 0] 25)).alloc (.cells #[.int .i64 0, .string (⟨#[]⟩ : ByteArray), .bool false] 27)
  have r := (Own6.new (d := (⟨#[]⟩ : ByteArray)) (f := false) (l := 0) (n := 0) (A := none) (na := 0) (ca := 0) (B := none) (nb := 0) (cb := 0) (w.alloc (.cells #[.string d, .bool true, .int .i64 l, .int .i64 n, .slice A LA.length ca, .slice B LB.length cb] 25))).alloc (.cells #[.int .i64 0, .string (⟨#[]⟩ : ByteArray), .bool false] 27)
  have q := Own3.new ((w.alloc (.cells #[.string d, .bool true, .int .i64 l, .int .i64 n, .slice A LA.length ca, .slice B LB.length cb] 25)).alloc (.cells #[.string (⟨#[]⟩ : ByteArray), .bool false, .int .i64 0, .int .i64 0, .slice none 0 0, .slice none 0 0] 25)) 0 (⟨#[]⟩ : ByteArray) false
  rw [show (w.alloc (.cells #[.string d, .bool true, .int .i64 l, .int .i64 n, .slice A LA.length ca, .slice B LB.length cb] 25)).heap.size = w.heap.size + 1 from by simp] at r
  rw [show ((w.alloc (.cells #[.string d, .bool true, .int .i64 l, .int .i64 n, .slice A LA.length ca, .slice B LB.length cb] 25)).alloc (.cells #[.string (⟨#[]⟩ : ByteArray), .bool false, .int .i64 0, .int .i64 0, .slice none 0 0, .slice none 0 0] 25)).heap.size = w.heap.size + 1 + 1 from by simp] at q
  have hW0 : Below w.heap.size w _ := (((Below.refl _ w).alloc (Nat.le_refl _) (.cells #[.string d, .bool true, .int .i64 l, .int .i64 n, .slice A LA.length ca, .slice B LB.length cb] 25)).alloc (by simp) (.cells #[.string (⟨#[]⟩ : ByteArray), .bool false, .int .i64 0, .int .i64 0, .slice none 0 0, .slice none 0 0] 25)).alloc (by simp; omega) (.cells #[.int .i64 0, .string (⟨#[]⟩ : ByteArray), .bool false] 27)
  have hsz : (((w.alloc (.cells #[.string d, .bool true, .int .i64 l, .int .i64 n, .slice A LA.length ca, .slice B LB.length cb] 25)).alloc (.cells #[.string (⟨#[]⟩ : ByteArray), .bool false, .int .i64 0, .int .i64 0, .slice none 0 0, .slice none 0 0] 25)).alloc (.cells #[.int .i64 0, .string (⟨#[]⟩ : ByteArray), .bool false] 27)).heap.size = w.heap.size + 1 + 1 + 1 := by simp
  go_enter Try.func67, Try.ntmps67
  go_wp2_with (go_at_call 62; go_loud ((with_reducible refine (copy_s d true l n LA LB A ca B cb _ (hA.below hW0) (hB.below hW0) eA eB (by omega) (by omega)).mono ?_); rintro e w1 ⟨⟨_, rfl, A1, c1, B1, c2, rfl, hI1, hJ1, hap⟩, hb1⟩; have hI1 : RngIn w1 (w.heap.size + 1 + 1 + 1) w1.heap.size A1 LA.length c1 LA := (by rw [hsz] at hI1; exact hI1); have hJ1 : RngIn w1 (w.heap.size + 1 + 1 + 1) w1.heap.size B1 LB.length c2 LB := (by rw [hsz] at hJ1; exact hJ1); have z1 := z.under hb1 (by omega); have r1 := r.under hb1 (by omega); have q1 := q.under hb1 (by omega); have hw1 := hW0.trans (hb1.mono hW0.size); have hs1 : w.heap.size + 1 + 1 + 1 ≤ w1.heap.size := (by have := hb1.size; omega); have lt1 : w.heap.size < w1.heap.size := (by omega); have lt2 : w.heap.size + 1 < w1.heap.size := (by omega); have lt3 : w.heap.size + 1 + 1 < w1.heap.size := (by omega); have HZ := hid_of z1; have HR := hid_of r1; have HQ := hid_of q1; obtain ⟨⟨z0, z1, z2, z3, z4, z5⟩, zf⟩ := z1; obtain ⟨⟨r0, r1, r2, r3, r4, r5⟩, rf⟩ := r1; obtain ⟨⟨q0, q1, q2⟩, qf⟩ := q1; clear z r q; have ra := fun o => (HR.out.alloc o).1; have rb := fun o => (HR.out.alloc o).2; have ra0 := fun o => (ra o).1; have ra1 := fun o => (ra o).2.1; have ra2 := fun o => (ra o).2.2.1; have ra3 := fun o => (ra o).2.2.2.1; have ra4 := fun o => (ra o).2.2.2.2.1; have ra5 := fun o => (ra o).2.2.2.2.2; have qa0 := fun o => (HQ.out.alloc o).1.1; have qa1 := fun o => (HQ.out.alloc o).1.2.1; have qa2 := fun o => (HQ.out.alloc o).1.2.2; have qb := fun o => (HQ.out.alloc o).2; clear ra lt2 lt3 r0 r1 r2 r3 r4 r5 rf q0 q1 q2 qf))
  try simp only [Exit.inBlock, Exit.then]
  have HO := hid_of (Own6.new (d := d) (f := true) (l := l) (n := n) (A := A1) (na := LA.length) (ca := c1) (B := B1) (nb := LB.length) (cb := c2) w1)
  have HR1 := hid_of (HR.out.alloc (.cells #[.string d, .bool true, .int .i64 l, .int .i64 n, .slice A1 LA.length c1, .slice B1 LB.length c2] 25))
  have HQ1 := hid_of (HQ.out.alloc (.cells #[.string d, .bool true, .int .i64 l, .int .i64 n, .slice A1 LA.length c1, .slice B1 LB.length c2] 25))
  refine bodyPost_ret (results_spb rfl rfl rfl rfl (((((HR1.out.setAll d true l n A1 LA.length c1 B1 LB.length c2).other (by dsimp only; omega) _).other (by dsimp only; omega) _).other (by dsimp only; omega) _)) (((((((HQ1.out.other (by dsimp only; omega) _).other (by dsimp only; omega) _).other (by dsimp only; omega) _).other (by dsimp only; omega) _).other (by dsimp only; omega) _).other (by dsimp only; omega) _).setAll 0 ⟨#[]⟩ false)) rfl ?_
  rw [HRR.out]
  refine ⟨⟨_, rfl, A1, c1, B1, c2, rfl, ?_, ?_, hap⟩, ?_⟩
  · refine RngIn.mono (B := w.heap.size + 1 + 1 + 1) (S := w1.heap.size) ?_ (by omega) (by simp [World.setCell])
    repeat refine RngIn.setLow ?_ (by dsimp only; omega) _
    exact hI1.alloc _
  · refine RngIn.mono (B := w.heap.size + 1 + 1 + 1) (S := w1.heap.size) ?_ (by omega) (by simp [World.setCell])
    repeat refine RngIn.setLow ?_ (by dsimp only; omega) _
    exact hJ1.alloc _
  · repeat refine Below.setCell ?_ (by dsimp only; omega) _
    exact ba hw1 _

end Go.Proofs.Ytmkmaeblnnfheaa
/- The next part, nothing lost: new positions are sent. -/
namespace Go.Proofs.Ytmkmaeblnnfheaa
open Go.RowKit
attribute [local irreducible] Go.wpQuiet
attribute [local go_sem] run_min3

set_option linter.unusedVariables false in
set_option maxRecDepth 100000 in
set_option maxHeartbeats 4000000 in
theorem next_new_f (d : ByteArray) (l n : Int) (LA LB : List Rg) (A : Option Addr) (ca : Nat) (B : Option Addr) (cb : Nat) (k : Int) (w : World) (hA : RngAt w A LA.length LA) (hB : RngAt w B LB.length LB) (eA : A = none → ca = 0) (eB : B = none → cb = 0) (hn : LA.length ≤ 100000) (hn' : LB.length ≤ 100000)
    (hk : 1 ≤ k ∧ k ≤ 1000) (hd : d.size ≤ 1000) (hl : -1000 ≤ l ∧ l ≤ 1000) (hn0 : 0 ≤ n ∧ n ≤ 1000) (hL : LB = []) (m1 m2 : Int) (hm1 : (if l < (d.size : Int) then l else (d.size : Int)) = m1) (hm2 : (if n + k < m1 then n + k else m1) = m2)  (hle : n < m2) (r : Sd × Pt × Bool) (hr : r = (⟨d, false, l, m2, LA, LB⟩, part ⟨d, false, l, n, LA, LB⟩ n (m2 - 1), true)) :
    Calls Try.prog 67 #[.agg #[.string d, .bool false, .int .i64 l, .int .i64 n, .slice A LA.length ca, .slice B LB.length cb], .int .i64 k] w (GotNext w r) := by
  have HRR := hid_of hr
  clear hr
  have hmb : -1000 ≤ m2 ∧ m2 ≤ 1000 ∧ m2 ≤ d.size := by
    have e1 : m1 = min l (d.size : Int) := by rw [← hm1]; split <;> omega
    have e2 : m2 = min (n + k) m1 := by rw [← hm2]; split <;> omega
    omega
  obtain ⟨hmb0, hmb1, hmb2⟩ := hmb
  have hnp : ¬ 0 < LB.length := by rw [hL]; simp
  clear hL
  obtain ⟨p, hp⟩ : ∃ p, part ⟨d, false, l, n, LA, LB⟩ n (m2 - 1) = p := ⟨_, rfl⟩
  have HP := hid_of hp
  clear hp
  have hwm : IntKind.i64.wrap (m2 - 1) = m2 - 1 := IntWalk.i64_in _ (by omega)
  obtain ⟨hk0, hk1⟩ := hk
  obtain ⟨hl0, hl1⟩ := hl
  obtain ⟨hn00, hn01⟩ := hn0
  have z := ((Own6.new (d := d) (f := false) (l := l) (n := n) (A := A) (na := LA.length) (ca := ca) (B := B) (nb := LB.length) (cb := cb) w).alloc (.cells #[.string (⟨#[]⟩ : ByteArray), .bool false, .int .i64 0, .int .i64 0, .slice none 0 0, .slice none 0 0] 25)).alloc (.cells #[.int .i64 0, .string (⟨#[]⟩ : ByteArray), .bool false] 27)
  have r := (Own6.new (d := (⟨#[]⟩ : ByteArray)) (f := false) (l := 0) (n := 0) (A := none) (na := 0) (ca := 0) (B := none) (nb := 0) (cb := 0) (w.alloc (.cells #[.string d, .bool false, .int .i64 l, .int .i64 n, .slice A LA.length ca, .slice B LB.length cb] 25))).alloc (.cells #[.int .i64 0, .string (⟨#[]⟩ : ByteArray), .bool false] 27)
  have q := Own3.new ((w.alloc (.cells #[.string d, .bool false, .int .i64 l, .int .i64 n, .slice A LA.length ca, .slice B LB.length cb] 25)).alloc (.cells #[.string (⟨#[]⟩ : ByteArray), .bool false, .int .i64 0, .int .i64 0, .slice none 0 0, .slice none 0 0] 25)) 0 (⟨#[]⟩ : ByteArray) false
  rw [show (w.alloc (.cells #[.string d, .bool false, .int .i64 l, .int .i64 n, .slice A LA.length ca, .slice B LB.length cb] 25)).heap.size = w.heap.size + 1 from by simp] at r
  rw [show ((w.alloc (.cells #[.string d, .bool false, .int .i64 l, .int .i64 n, .slice A LA.length ca, .slice B LB.length cb] 25)).alloc (.cells #[.string (⟨#[]⟩ : ByteArray), .bool false, .int .i64 0, .int .i64 0, .slice none 0 0, .slice none 0 0] 25)).heap.size = w.heap.size + 1 + 1 from by simp] at q
  have hW0 : Below w.heap.size w _ := (((Below.refl _ w).alloc (Nat.le_refl _) (.cells #[.string d, .bool false, .int .i64 l, .int .i64 n, .slice A LA.length ca, .slice B LB.length cb] 25)).alloc (by simp) (.cells #[.string (⟨#[]⟩ : ByteArray), .bool false, .int .i64 0, .int .i64 0, .slice none 0 0, .slice none 0 0] 25)).alloc (by simp; omega) (.cells #[.int .i64 0, .string (⟨#[]⟩ : ByteArray), .bool false] 27)
  have hsz : (((w.alloc (.cells #[.string d, .bool false, .int .i64 l, .int .i64 n, .slice A LA.length ca, .slice B LB.length cb] 25)).alloc (.cells #[.string (⟨#[]⟩ : ByteArray), .bool false, .int .i64 0, .int .i64 0, .slice none 0 0, .slice none 0 0] 25)).alloc (.cells #[.int .i64 0, .string (⟨#[]⟩ : ByteArray), .bool false] 27)).heap.size = w.heap.size + 1 + 1 + 1 := by simp
  go_enter Try.func67, Try.ntmps67
  go_wp2_with (go_at_call 62; go_loud ((with_reducible refine (copy_s d false l n LA LB A ca B cb _ (hA.below hW0) (hB.below hW0) eA eB (by omega) (by omega)).mono ?_); rintro e w1 ⟨⟨_, rfl, A1, c1, B1, c2, rfl, hI1, hJ1, hap⟩, hb1⟩; have hI1 : RngIn w1 (w.heap.size + 1 + 1 + 1) w1.heap.size A1 LA.length c1 LA := (by rw [hsz] at hI1; exact hI1); have hJ1 : RngIn w1 (w.heap.size + 1 + 1 + 1) w1.heap.size B1 LB.length c2 LB := (by rw [hsz] at hJ1; exact hJ1); have z1 := z.under hb1 (by omega); have r1 := r.under hb1 (by omega); have q1 := q.under hb1 (by omega); have hw1 := hW0.trans (hb1.mono hW0.size); have hs1 : w.heap.size + 1 + 1 + 1 ≤ w1.heap.size := (by have := hb1.size; omega); have lt1 : w.heap.size < w1.heap.size := (by omega); have lt2 : w.heap.size + 1 < w1.heap.size := (by omega); have lt3 : w.heap.size + 1 + 1 < w1.heap.size := (by omega); have HZ := hid_of z1; have HR := hid_of r1; have HQ := hid_of q1; obtain ⟨⟨z0, z1, z2, z3, z4, z5⟩, zf⟩ := z1; obtain ⟨⟨r0, r1, r2, r3, r4, r5⟩, rf⟩ := r1; obtain ⟨⟨q0, q1, q2⟩, qf⟩ := q1; clear z r q))
  generalize hW8 : World.alloc w1 _ = W8
  have hz8 : Own6 W8 w.heap.size d false l n A LA.length ca B LB.length cb := by rw [← hW8]; exact HZ.out.alloc _
  have hr8 : Own6 W8 (w.heap.size + 1) (⟨#[]⟩ : ByteArray) false 0 0 none 0 0 none 0 0 := by rw [← hW8]; exact HR.out.alloc _
  have hq8 : Own3 W8 (w.heap.size + 1 + 1) 0 (⟨#[]⟩ : ByteArray) false := by rw [← hW8]; exact HQ.out.alloc _
  have ho8 : Own6 W8 w1.heap.size d false l (m2) A1 LA.length c1 B1 LB.length c2 := by rw [← hW8]; exact Own6.new w1
  have hw8 : Below w.heap.size w W8 := by rw [← hW8]; exact ba hw1 _
  have hs8 : W8.heap.size = w1.heap.size + 1 := by rw [← hW8]; simp
  have hI1 : RngIn W8 (w.heap.size + 1 + 1 + 1) w1.heap.size A1 LA.length c1 LA := by rw [← hW8]; exact hI1.alloc _
  have hJ1 : RngIn W8 (w.heap.size + 1 + 1 + 1) w1.heap.size B1 LB.length c2 LB := by rw [← hW8]; exact hJ1.alloc _
  have HZ8 := hid_of hz8
  have HR8 := hid_of hr8
  have HQ8 := hid_of hq8
  have HO8 := hid_of ho8
  clear hW8
  obtain ⟨⟨z0, z1, z2, z3, z4, z5⟩, zf⟩ := hz8
  obtain ⟨⟨r0, r1, r2, r3, r4, r5⟩, rf⟩ := hr8
  obtain ⟨⟨q0, q1, q2⟩, qf⟩ := hq8
  obtain ⟨⟨o0, o1, o2, o3, o4, o5⟩, of⟩ := ho8
  have ne1 : ¬ (w.heap.size + 1 = w1.heap.size) := by omega
  have ne2 : ¬ (w1.heap.size = w.heap.size + 1) := by omega
  have ne3 : ¬ (w.heap.size + 1 + 1 = w1.heap.size) := by omega
  have ne4 : ¬ (w1.heap.size = w.heap.size + 1 + 1) := by omega
  have ne5 : ¬ (w.heap.size = w.heap.size + 1 + 1) := by omega
  have ne6 : ¬ (w.heap.size + 1 + 1 = w.heap.size) := by omega
  have ne7 : ¬ (w.heap.size = w.heap.size + 1) := by omega
  have ne8 : ¬ (w.heap.size + 1 = w.heap.size) := by omega
  go_region_held3 (fun w' => w'.cell? ⟨w.heap.size, 0, none⟩ = some (.string d) ∧ w'.cell? ⟨w.heap.size, 1, none⟩ = some (.bool false) ∧ w'.cell? ⟨w.heap.size, 2, none⟩ = some (.int .i64 l) ∧ w'.cell? ⟨w.heap.size, 3, none⟩ = some (.int .i64 n) ∧ w'.cell? ⟨w.heap.size, 4, none⟩ = some (.slice A LA.length ca) ∧ w'.cell? ⟨w.heap.size, 5, none⟩ = some (.slice B LB.length cb) ∧ w'.cell? ⟨w1.heap.size, 0, none⟩ = some (.string d) ∧ w'.cell? ⟨w1.heap.size, 1, none⟩ = some (.bool false) ∧ w'.cell? ⟨w1.heap.size, 2, none⟩ = some (.int .i64 l) ∧ w'.cell? ⟨w1.heap.size, 3, none⟩ = some (.int .i64 (m2)) ∧ w'.cell? ⟨w1.heap.size, 4, none⟩ = some (.slice A1 LA.length c1) ∧ w'.cell? ⟨w1.heap.size, 5, none⟩ = some (.slice B1 LB.length c2)) (go_keep) ((go_at_call 96; (with_reducible refine (part_s d false l n LA LB A LA.length ca B LB.length cb n (m2 - 1) _ hn00 (by omega) (by omega) HP.out).mono ?_); rintro e w3 ⟨rfl, hb3⟩; have hb3 : Below W8.heap.size W8 w3 := ⟨hb3.os, hb3.tape, hb3.output, hb3.size, hb3.block⟩; have hs3 := hb3.size; have HZ3 := hid_of (HZ8.out.under hb3 (by omega)); have HR3 := hid_of (HR8.out.under hb3 (by omega)); have HQ3 := hid_of (HQ8.out.under hb3 (by omega)); have HO3 := hid_of (HO8.out.under hb3 (by omega)); obtain ⟨⟨z0, z1, z2, z3, z4, z5⟩, zf⟩ := HZ3.out; obtain ⟨⟨r0, r1, r2, r3, r4, r5⟩, rf⟩ := HR3.out; obtain ⟨⟨q0, q1, q2⟩, qf⟩ := HQ3.out; obtain ⟨⟨o0, o1, o2, o3, o4, o5⟩, of⟩ := HO3.out))
  all_goals go_wp2_with fail
  all_goals
    try simp only [Exit.inBlock, Exit.then]
    refine bodyPost_ret (results_spb rfl rfl rfl rfl (((((HR3.out.setAll d false l (m2) A1 LA.length c1 B1 LB.length c2).other (by dsimp only; omega) _).other (by dsimp only; omega) _).other (by dsimp only; omega) _)) (((((((HQ3.out.other (by dsimp only; omega) _).other (by dsimp only; omega) _).other (by dsimp only; omega) _).other (by dsimp only; omega) _).other (by dsimp only; omega) _).other (by dsimp only; omega) _).setAll p.o p.d p.f)) rfl ?_
    rw [HRR.out, HP.out]
    refine ⟨⟨_, rfl, A1, c1, B1, c2, rfl, ?_, ?_, hap⟩, ?_⟩
    · refine RngIn.mono (B := w.heap.size + 1 + 1 + 1) (S := w1.heap.size) ?_ (by omega) (by simp [World.setCell]; omega)
      repeat refine RngIn.setLow ?_ (by dsimp only; omega) _
      exact hI1.below hb3
    · refine RngIn.mono (B := w.heap.size + 1 + 1 + 1) (S := w1.heap.size) ?_ (by omega) (by simp [World.setCell]; omega)
      repeat refine RngIn.setLow ?_ (by dsimp only; omega) _
      exact hJ1.below hb3
    · repeat refine Below.setCell ?_ (by dsimp only; omega) _
      exact hw8.trans (hb3.mono (by omega))

set_option linter.unusedVariables false in
set_option maxRecDepth 100000 in
set_option maxHeartbeats 4000000 in
theorem next_new_t1 (d : ByteArray) (l n : Int) (LA LB : List Rg) (A : Option Addr) (ca : Nat) (B : Option Addr) (cb : Nat) (k : Int) (w : World) (hA : RngAt w A LA.length LA) (hB : RngAt w B LB.length LB) (eA : A = none → ca = 0) (eB : B = none → cb = 0) (hn : LA.length ≤ 100000) (hn' : LB.length ≤ 100000)
    (hk : 1 ≤ k ∧ k ≤ 1000) (hd : d.size ≤ 1000) (hl : -1000 ≤ l ∧ l ≤ 1000) (hn0 : 0 ≤ n ∧ n ≤ 1000) (hL : LB = []) (m1 m2 : Int) (hm1 : (if l < (d.size : Int) then l else (d.size : Int)) = m1) (hm2 : (if n + k < m1 then n + k else m1) = m2) (hE : (m2 == (d.size : Int)) = true) (hle : n < m2 + 1) (r : Sd × Pt × Bool) (hr : r = (⟨d, true, l, m2 + 1, LA, LB⟩, part ⟨d, true, l, n, LA, LB⟩ n (m2), true)) :
    Calls Try.prog 67 #[.agg #[.string d, .bool true, .int .i64 l, .int .i64 n, .slice A LA.length ca, .slice B LB.length cb], .int .i64 k] w (GotNext w r) := by
  have HRR := hid_of hr
  clear hr
  have hmb : -1000 ≤ m2 ∧ m2 ≤ 1000 ∧ m2 ≤ d.size := by
    have e1 : m1 = min l (d.size : Int) := by rw [← hm1]; split <;> omega
    have e2 : m2 = min (n + k) m1 := by rw [← hm2]; split <;> omega
    omega
  obtain ⟨hmb0, hmb1, hmb2⟩ := hmb
  have hnp : ¬ 0 < LB.length := by rw [hL]; simp
  clear hL
  obtain ⟨p, hp⟩ : ∃ p, part ⟨d, true, l, n, LA, LB⟩ n (m2) = p := ⟨_, rfl⟩
  have HP := hid_of hp
  clear hp
  have hwm : IntKind.i64.wrap (m2) = m2 := IntWalk.i64_in _ (by omega)
  obtain ⟨hk0, hk1⟩ := hk
  obtain ⟨hl0, hl1⟩ := hl
  obtain ⟨hn00, hn01⟩ := hn0
  have z := ((Own6.new (d := d) (f := true) (l := l) (n := n) (A := A) (na := LA.length) (ca := ca) (B := B) (nb := LB.length) (cb := cb) w).alloc (.cells #[.string (⟨#[]⟩ : ByteArray), .bool false, .int .i64 0, .int .i64 0, .slice none 0 0, .slice none 0 0] 25)).alloc (.cells #[.int .i64 0, .string (⟨#[]⟩ : ByteArray), .bool false] 27)
  have r := (Own6.new (d := (⟨#[]⟩ : ByteArray)) (f := false) (l := 0) (n := 0) (A := none) (na := 0) (ca := 0) (B := none) (nb := 0) (cb := 0) (w.alloc (.cells #[.string d, .bool true, .int .i64 l, .int .i64 n, .slice A LA.length ca, .slice B LB.length cb] 25))).alloc (.cells #[.int .i64 0, .string (⟨#[]⟩ : ByteArray), .bool false] 27)
  have q := Own3.new ((w.alloc (.cells #[.string d, .bool true, .int .i64 l, .int .i64 n, .slice A LA.length ca, .slice B LB.length cb] 25)).alloc (.cells #[.string (⟨#[]⟩ : ByteArray), .bool false, .int .i64 0, .int .i64 0, .slice none 0 0, .slice none 0 0] 25)) 0 (⟨#[]⟩ : ByteArray) false
  rw [show (w.alloc (.cells #[.string d, .bool true, .int .i64 l, .int .i64 n, .slice A LA.length ca, .slice B LB.length cb] 25)).heap.size = w.heap.size + 1 from by simp] at r
  rw [show ((w.alloc (.cells #[.string d, .bool true, .int .i64 l, .int .i64 n, .slice A LA.length ca, .slice B LB.length cb] 25)).alloc (.cells #[.string (⟨#[]⟩ : ByteArray), .bool false, .int .i64 0, .int .i64 0, .slice none 0 0, .slice none 0 0] 25)).heap.size = w.heap.size + 1 + 1 from by simp] at q
  have hW0 : Below w.heap.size w _ := (((Below.refl _ w).alloc (Nat.le_refl _) (.cells #[.string d, .bool true, .int .i64 l, .int .i64 n, .slice A LA.length ca, .slice B LB.length cb] 25)).alloc (by simp) (.cells #[.string (⟨#[]⟩ : ByteArray), .bool false, .int .i64 0, .int .i64 0, .slice none 0 0, .slice none 0 0] 25)).alloc (by simp; omega) (.cells #[.int .i64 0, .string (⟨#[]⟩ : ByteArray), .bool false] 27)
  have hsz : (((w.alloc (.cells #[.string d, .bool true, .int .i64 l, .int .i64 n, .slice A LA.length ca, .slice B LB.length cb] 25)).alloc (.cells #[.string (⟨#[]⟩ : ByteArray), .bool false, .int .i64 0, .int .i64 0, .slice none 0 0, .slice none 0 0] 25)).alloc (.cells #[.int .i64 0, .string (⟨#[]⟩ : ByteArray), .bool false] 27)).heap.size = w.heap.size + 1 + 1 + 1 := by simp
  go_enter Try.func67, Try.ntmps67
  go_wp2_with (go_at_call 62; go_loud ((with_reducible refine (copy_s d true l n LA LB A ca B cb _ (hA.below hW0) (hB.below hW0) eA eB (by omega) (by omega)).mono ?_); rintro e w1 ⟨⟨_, rfl, A1, c1, B1, c2, rfl, hI1, hJ1, hap⟩, hb1⟩; have hI1 : RngIn w1 (w.heap.size + 1 + 1 + 1) w1.heap.size A1 LA.length c1 LA := (by rw [hsz] at hI1; exact hI1); have hJ1 : RngIn w1 (w.heap.size + 1 + 1 + 1) w1.heap.size B1 LB.length c2 LB := (by rw [hsz] at hJ1; exact hJ1); have z1 := z.under hb1 (by omega); have r1 := r.under hb1 (by omega); have q1 := q.under hb1 (by omega); have hw1 := hW0.trans (hb1.mono hW0.size); have hs1 : w.heap.size + 1 + 1 + 1 ≤ w1.heap.size := (by have := hb1.size; omega); have lt1 : w.heap.size < w1.heap.size := (by omega); have lt2 : w.heap.size + 1 < w1.heap.size := (by omega); have lt3 : w.heap.size + 1 + 1 < w1.heap.size := (by omega); have HZ := hid_of z1; have HR := hid_of r1; have HQ := hid_of q1; obtain ⟨⟨z0, z1, z2, z3, z4, z5⟩, zf⟩ := z1; obtain ⟨⟨r0, r1, r2, r3, r4, r5⟩, rf⟩ := r1; obtain ⟨⟨q0, q1, q2⟩, qf⟩ := q1; clear z r q))
  generalize hW8 : World.alloc w1 _ = W8
  have hz8 : Own6 W8 w.heap.size d true l n A LA.length ca B LB.length cb := by rw [← hW8]; exact HZ.out.alloc _
  have hr8 : Own6 W8 (w.heap.size + 1) (⟨#[]⟩ : ByteArray) false 0 0 none 0 0 none 0 0 := by rw [← hW8]; exact HR.out.alloc _
  have hq8 : Own3 W8 (w.heap.size + 1 + 1) 0 (⟨#[]⟩ : ByteArray) false := by rw [← hW8]; exact HQ.out.alloc _
  have ho8 : Own6 W8 w1.heap.size d true l (m2 + 1) A1 LA.length c1 B1 LB.length c2 := by rw [← hW8]; exact Own6.new w1
  have hw8 : Below w.heap.size w W8 := by rw [← hW8]; exact ba hw1 _
  have hs8 : W8.heap.size = w1.heap.size + 1 := by rw [← hW8]; simp
  have hI1 : RngIn W8 (w.heap.size + 1 + 1 + 1) w1.heap.size A1 LA.length c1 LA := by rw [← hW8]; exact hI1.alloc _
  have hJ1 : RngIn W8 (w.heap.size + 1 + 1 + 1) w1.heap.size B1 LB.length c2 LB := by rw [← hW8]; exact hJ1.alloc _
  have HZ8 := hid_of hz8
  have HR8 := hid_of hr8
  have HQ8 := hid_of hq8
  have HO8 := hid_of ho8
  clear hW8
  obtain ⟨⟨z0, z1, z2, z3, z4, z5⟩, zf⟩ := hz8
  obtain ⟨⟨r0, r1, r2, r3, r4, r5⟩, rf⟩ := hr8
  obtain ⟨⟨q0, q1, q2⟩, qf⟩ := hq8
  obtain ⟨⟨o0, o1, o2, o3, o4, o5⟩, of⟩ := ho8
  have ne1 : ¬ (w.heap.size + 1 = w1.heap.size) := by omega
  have ne2 : ¬ (w1.heap.size = w.heap.size + 1) := by omega
  have ne3 : ¬ (w.heap.size + 1 + 1 = w1.heap.size) := by omega
  have ne4 : ¬ (w1.heap.size = w.heap.size + 1 + 1) := by omega
  have ne5 : ¬ (w.heap.size = w.heap.size + 1 + 1) := by omega
  have ne6 : ¬ (w.heap.size + 1 + 1 = w.heap.size) := by omega
  have ne7 : ¬ (w.heap.size = w.heap.size + 1) := by omega
  have ne8 : ¬ (w.heap.size + 1 = w.heap.size) := by omega
  go_region_held3 (fun w' => w'.cell? ⟨w.heap.size, 0, none⟩ = some (.string d) ∧ w'.cell? ⟨w.heap.size, 1, none⟩ = some (.bool true) ∧ w'.cell? ⟨w.heap.size, 2, none⟩ = some (.int .i64 l) ∧ w'.cell? ⟨w.heap.size, 3, none⟩ = some (.int .i64 n) ∧ w'.cell? ⟨w.heap.size, 4, none⟩ = some (.slice A LA.length ca) ∧ w'.cell? ⟨w.heap.size, 5, none⟩ = some (.slice B LB.length cb) ∧ w'.cell? ⟨w1.heap.size, 0, none⟩ = some (.string d) ∧ w'.cell? ⟨w1.heap.size, 1, none⟩ = some (.bool true) ∧ w'.cell? ⟨w1.heap.size, 2, none⟩ = some (.int .i64 l) ∧ w'.cell? ⟨w1.heap.size, 3, none⟩ = some (.int .i64 (m2 + 1)) ∧ w'.cell? ⟨w1.heap.size, 4, none⟩ = some (.slice A1 LA.length c1) ∧ w'.cell? ⟨w1.heap.size, 5, none⟩ = some (.slice B1 LB.length c2)) (go_keep) ((go_at_call 96; (with_reducible refine (part_s d true l n LA LB A LA.length ca B LB.length cb n (m2) _ hn00 (by omega) (by omega) HP.out).mono ?_); rintro e w3 ⟨rfl, hb3⟩; have hb3 : Below W8.heap.size W8 w3 := ⟨hb3.os, hb3.tape, hb3.output, hb3.size, hb3.block⟩; have hs3 := hb3.size; have HZ3 := hid_of (HZ8.out.under hb3 (by omega)); have HR3 := hid_of (HR8.out.under hb3 (by omega)); have HQ3 := hid_of (HQ8.out.under hb3 (by omega)); have HO3 := hid_of (HO8.out.under hb3 (by omega)); obtain ⟨⟨z0, z1, z2, z3, z4, z5⟩, zf⟩ := HZ3.out; obtain ⟨⟨r0, r1, r2, r3, r4, r5⟩, rf⟩ := HR3.out; obtain ⟨⟨q0, q1, q2⟩, qf⟩ := HQ3.out; obtain ⟨⟨o0, o1, o2, o3, o4, o5⟩, of⟩ := HO3.out))
  all_goals go_wp2_with fail
  all_goals
    try simp only [Exit.inBlock, Exit.then]
    refine bodyPost_ret (results_spb rfl rfl rfl rfl (((((HR3.out.setAll d true l (m2 + 1) A1 LA.length c1 B1 LB.length c2).other (by dsimp only; omega) _).other (by dsimp only; omega) _).other (by dsimp only; omega) _)) (((((((HQ3.out.other (by dsimp only; omega) _).other (by dsimp only; omega) _).other (by dsimp only; omega) _).other (by dsimp only; omega) _).other (by dsimp only; omega) _).other (by dsimp only; omega) _).setAll p.o p.d p.f)) rfl ?_
    rw [HRR.out, HP.out]
    refine ⟨⟨_, rfl, A1, c1, B1, c2, rfl, ?_, ?_, hap⟩, ?_⟩
    · refine RngIn.mono (B := w.heap.size + 1 + 1 + 1) (S := w1.heap.size) ?_ (by omega) (by simp [World.setCell]; omega)
      repeat refine RngIn.setLow ?_ (by dsimp only; omega) _
      exact hI1.below hb3
    · refine RngIn.mono (B := w.heap.size + 1 + 1 + 1) (S := w1.heap.size) ?_ (by omega) (by simp [World.setCell]; omega)
      repeat refine RngIn.setLow ?_ (by dsimp only; omega) _
      exact hJ1.below hb3
    · repeat refine Below.setCell ?_ (by dsimp only; omega) _
      exact hw8.trans (hb3.mono (by omega))

set_option linter.unusedVariables false in
set_option maxRecDepth 100000 in
set_option maxHeartbeats 4000000 in
theorem next_new_t2 (d : ByteArray) (l n : Int) (LA LB : List Rg) (A : Option Addr) (ca : Nat) (B : Option Addr) (cb : Nat) (k : Int) (w : World) (hA : RngAt w A LA.length LA) (hB : RngAt w B LB.length LB) (eA : A = none → ca = 0) (eB : B = none → cb = 0) (hn : LA.length ≤ 100000) (hn' : LB.length ≤ 100000)
    (hk : 1 ≤ k ∧ k ≤ 1000) (hd : d.size ≤ 1000) (hl : -1000 ≤ l ∧ l ≤ 1000) (hn0 : 0 ≤ n ∧ n ≤ 1000) (hL : LB = []) (m1 m2 : Int) (hm1 : (if l < (d.size : Int) then l else (d.size : Int)) = m1) (hm2 : (if n + k < m1 then n + k else m1) = m2) (hE : (m2 == (d.size : Int)) = false) (hle : n < m2) (r : Sd × Pt × Bool) (hr : r = (⟨d, true, l, m2, LA, LB⟩, part ⟨d, true, l, n, LA, LB⟩ n (m2 - 1), true)) :
    Calls Try.prog 67 #[.agg #[.string d, .bool true, .int .i64 l, .int .i64 n, .slice A LA.length ca, .slice B LB.length cb], .int .i64 k] w (GotNext w r) := by
  have HRR := hid_of hr
  clear hr
  have hmb : -1000 ≤ m2 ∧ m2 ≤ 1000 ∧ m2 ≤ d.size := by
    have e1 : m1 = min l (d.size : Int) := by rw [← hm1]; split <;> omega
    have e2 : m2 = min (n + k) m1 := by rw [← hm2]; split <;> omega
    omega
  obtain ⟨hmb0, hmb1, hmb2⟩ := hmb
  have hnp : ¬ 0 < LB.length := by rw [hL]; simp
  clear hL
  obtain ⟨p, hp⟩ : ∃ p, part ⟨d, true, l, n, LA, LB⟩ n (m2 - 1) = p := ⟨_, rfl⟩
  have HP := hid_of hp
  clear hp
  have hwm : IntKind.i64.wrap (m2 - 1) = m2 - 1 := IntWalk.i64_in _ (by omega)
  obtain ⟨hk0, hk1⟩ := hk
  obtain ⟨hl0, hl1⟩ := hl
  obtain ⟨hn00, hn01⟩ := hn0
  have z := ((Own6.new (d := d) (f := true) (l := l) (n := n) (A := A) (na := LA.length) (ca := ca) (B := B) (nb := LB.length) (cb := cb) w).alloc (.cells #[.string (⟨#[]⟩ : ByteArray), .bool false, .int .i64 0, .int .i64 0, .slice none 0 0, .slice none 0 0] 25)).alloc (.cells #[.int .i64 0, .string (⟨#[]⟩ : ByteArray), .bool false] 27)
  have r := (Own6.new (d := (⟨#[]⟩ : ByteArray)) (f := false) (l := 0) (n := 0) (A := none) (na := 0) (ca := 0) (B := none) (nb := 0) (cb := 0) (w.alloc (.cells #[.string d, .bool true, .int .i64 l, .int .i64 n, .slice A LA.length ca, .slice B LB.length cb] 25))).alloc (.cells #[.int .i64 0, .string (⟨#[]⟩ : ByteArray), .bool false] 27)
  have q := Own3.new ((w.alloc (.cells #[.string d, .bool true, .int .i64 l, .int .i64 n, .slice A LA.length ca, .slice B LB.length cb] 25)).alloc (.cells #[.string (⟨#[]⟩ : ByteArray), .bool false, .int .i64 0, .int .i64 0, .slice none 0 0, .slice none 0 0] 25)) 0 (⟨#[]⟩ : ByteArray) false
  rw [show (w.alloc (.cells #[.string d, .bool true, .int .i64 l, .int .i64 n, .slice A LA.length ca, .slice B LB.length cb] 25)).heap.size = w.heap.size + 1 from by simp] at r
  rw [show ((w.alloc (.cells #[.string d, .bool true, .int .i64 l, .int .i64 n, .slice A LA.length ca, .slice B LB.length cb] 25)).alloc (.cells #[.string (⟨#[]⟩ : ByteArray), .bool false, .int .i64 0, .int .i64 0, .slice none 0 0, .slice none 0 0] 25)).heap.size = w.heap.size + 1 + 1 from by simp] at q
  have hW0 : Below w.heap.size w _ := (((Below.refl _ w).alloc (Nat.le_refl _) (.cells #[.string d, .bool true, .int .i64 l, .int .i64 n, .slice A LA.length ca, .slice B LB.length cb] 25)).alloc (by simp) (.cells #[.string (⟨#[]⟩ : ByteArray), .bool false, .int .i64 0, .int .i64 0, .slice none 0 0, .slice none 0 0] 25)).alloc (by simp; omega) (.cells #[.int .i64 0, .string (⟨#[]⟩ : ByteArray), .bool false] 27)
  have hsz : (((w.alloc (.cells #[.string d, .bool true, .int .i64 l, .int .i64 n, .slice A LA.length ca, .slice B LB.length cb] 25)).alloc (.cells #[.string (⟨#[]⟩ : ByteArray), .bool false, .int .i64 0, .int .i64 0, .slice none 0 0, .slice none 0 0] 25)).alloc (.cells #[.int .i64 0, .string (⟨#[]⟩ : ByteArray), .bool false] 27)).heap.size = w.heap.size + 1 + 1 + 1 := by simp
  go_enter Try.func67, Try.ntmps67
  go_wp2_with (go_at_call 62; go_loud ((with_reducible refine (copy_s d true l n LA LB A ca B cb _ (hA.below hW0) (hB.below hW0) eA eB (by omega) (by omega)).mono ?_); rintro e w1 ⟨⟨_, rfl, A1, c1, B1, c2, rfl, hI1, hJ1, hap⟩, hb1⟩; have hI1 : RngIn w1 (w.heap.size + 1 + 1 + 1) w1.heap.size A1 LA.length c1 LA := (by rw [hsz] at hI1; exact hI1); have hJ1 : RngIn w1 (w.heap.size + 1 + 1 + 1) w1.heap.size B1 LB.length c2 LB := (by rw [hsz] at hJ1; exact hJ1); have z1 := z.under hb1 (by omega); have r1 := r.under hb1 (by omega); have q1 := q.under hb1 (by omega); have hw1 := hW0.trans (hb1.mono hW0.size); have hs1 : w.heap.size + 1 + 1 + 1 ≤ w1.heap.size := (by have := hb1.size; omega); have lt1 : w.heap.size < w1.heap.size := (by omega); have lt2 : w.heap.size + 1 < w1.heap.size := (by omega); have lt3 : w.heap.size + 1 + 1 < w1.heap.size := (by omega); have HZ := hid_of z1; have HR := hid_of r1; have HQ := hid_of q1; obtain ⟨⟨z0, z1, z2, z3, z4, z5⟩, zf⟩ := z1; obtain ⟨⟨r0, r1, r2, r3, r4, r5⟩, rf⟩ := r1; obtain ⟨⟨q0, q1, q2⟩, qf⟩ := q1; clear z r q))
  generalize hW8 : World.alloc w1 _ = W8
  have hz8 : Own6 W8 w.heap.size d true l n A LA.length ca B LB.length cb := by rw [← hW8]; exact HZ.out.alloc _
  have hr8 : Own6 W8 (w.heap.size + 1) (⟨#[]⟩ : ByteArray) false 0 0 none 0 0 none 0 0 := by rw [← hW8]; exact HR.out.alloc _
  have hq8 : Own3 W8 (w.heap.size + 1 + 1) 0 (⟨#[]⟩ : ByteArray) false := by rw [← hW8]; exact HQ.out.alloc _
  have ho8 : Own6 W8 w1.heap.size d true l (m2) A1 LA.length c1 B1 LB.length c2 := by rw [← hW8]; exact Own6.new w1
  have hw8 : Below w.heap.size w W8 := by rw [← hW8]; exact ba hw1 _
  have hs8 : W8.heap.size = w1.heap.size + 1 := by rw [← hW8]; simp
  have hI1 : RngIn W8 (w.heap.size + 1 + 1 + 1) w1.heap.size A1 LA.length c1 LA := by rw [← hW8]; exact hI1.alloc _
  have hJ1 : RngIn W8 (w.heap.size + 1 + 1 + 1) w1.heap.size B1 LB.length c2 LB := by rw [← hW8]; exact hJ1.alloc _
  have HZ8 := hid_of hz8
  have HR8 := hid_of hr8
  have HQ8 := hid_of hq8
  have HO8 := hid_of ho8
  clear hW8
  obtain ⟨⟨z0, z1, z2, z3, z4, z5⟩, zf⟩ := hz8
  obtain ⟨⟨r0, r1, r2, r3, r4, r5⟩, rf⟩ := hr8
  obtain ⟨⟨q0, q1, q2⟩, qf⟩ := hq8
  obtain ⟨⟨o0, o1, o2, o3, o4, o5⟩, of⟩ := ho8
  have ne1 : ¬ (w.heap.size + 1 = w1.heap.size) := by omega
  have ne2 : ¬ (w1.heap.size = w.heap.size + 1) := by omega
  have ne3 : ¬ (w.heap.size + 1 + 1 = w1.heap.size) := by omega
  have ne4 : ¬ (w1.heap.size = w.heap.size + 1 + 1) := by omega
  have ne5 : ¬ (w.heap.size = w.heap.size + 1 + 1) := by omega
  have ne6 : ¬ (w.heap.size + 1 + 1 = w.heap.size) := by omega
  have ne7 : ¬ (w.heap.size = w.heap.size + 1) := by omega
  have ne8 : ¬ (w.heap.size + 1 = w.heap.size) := by omega
  go_region_held3 (fun w' => w'.cell? ⟨w.heap.size, 0, none⟩ = some (.string d) ∧ w'.cell? ⟨w.heap.size, 1, none⟩ = some (.bool true) ∧ w'.cell? ⟨w.heap.size, 2, none⟩ = some (.int .i64 l) ∧ w'.cell? ⟨w.heap.size, 3, none⟩ = some (.int .i64 n) ∧ w'.cell? ⟨w.heap.size, 4, none⟩ = some (.slice A LA.length ca) ∧ w'.cell? ⟨w.heap.size, 5, none⟩ = some (.slice B LB.length cb) ∧ w'.cell? ⟨w1.heap.size, 0, none⟩ = some (.string d) ∧ w'.cell? ⟨w1.heap.size, 1, none⟩ = some (.bool true) ∧ w'.cell? ⟨w1.heap.size, 2, none⟩ = some (.int .i64 l) ∧ w'.cell? ⟨w1.heap.size, 3, none⟩ = some (.int .i64 (m2)) ∧ w'.cell? ⟨w1.heap.size, 4, none⟩ = some (.slice A1 LA.length c1) ∧ w'.cell? ⟨w1.heap.size, 5, none⟩ = some (.slice B1 LB.length c2)) (go_keep) ((go_at_call 96; (with_reducible refine (part_s d true l n LA LB A LA.length ca B LB.length cb n (m2 - 1) _ hn00 (by omega) (by omega) HP.out).mono ?_); rintro e w3 ⟨rfl, hb3⟩; have hb3 : Below W8.heap.size W8 w3 := ⟨hb3.os, hb3.tape, hb3.output, hb3.size, hb3.block⟩; have hs3 := hb3.size; have HZ3 := hid_of (HZ8.out.under hb3 (by omega)); have HR3 := hid_of (HR8.out.under hb3 (by omega)); have HQ3 := hid_of (HQ8.out.under hb3 (by omega)); have HO3 := hid_of (HO8.out.under hb3 (by omega)); obtain ⟨⟨z0, z1, z2, z3, z4, z5⟩, zf⟩ := HZ3.out; obtain ⟨⟨r0, r1, r2, r3, r4, r5⟩, rf⟩ := HR3.out; obtain ⟨⟨q0, q1, q2⟩, qf⟩ := HQ3.out; obtain ⟨⟨o0, o1, o2, o3, o4, o5⟩, of⟩ := HO3.out))
  all_goals go_wp2_with fail
  all_goals
    try simp only [Exit.inBlock, Exit.then]
    refine bodyPost_ret (results_spb rfl rfl rfl rfl (((((HR3.out.setAll d true l (m2) A1 LA.length c1 B1 LB.length c2).other (by dsimp only; omega) _).other (by dsimp only; omega) _).other (by dsimp only; omega) _)) (((((((HQ3.out.other (by dsimp only; omega) _).other (by dsimp only; omega) _).other (by dsimp only; omega) _).other (by dsimp only; omega) _).other (by dsimp only; omega) _).other (by dsimp only; omega) _).setAll p.o p.d p.f)) rfl ?_
    rw [HRR.out, HP.out]
    refine ⟨⟨_, rfl, A1, c1, B1, c2, rfl, ?_, ?_, hap⟩, ?_⟩
    · refine RngIn.mono (B := w.heap.size + 1 + 1 + 1) (S := w1.heap.size) ?_ (by omega) (by simp [World.setCell]; omega)
      repeat refine RngIn.setLow ?_ (by dsimp only; omega) _
      exact hI1.below hb3
    · refine RngIn.mono (B := w.heap.size + 1 + 1 + 1) (S := w1.heap.size) ?_ (by omega) (by simp [World.setCell]; omega)
      repeat refine RngIn.setLow ?_ (by dsimp only; omega) _
      exact hJ1.below hb3
    · repeat refine Below.setCell ?_ (by dsimp only; omega) _
      exact hw8.trans (hb3.mono (by omega))

end Go.Proofs.Ytmkmaeblnnfheaa
/- The next part, by the reference: all cases. -/
namespace Go.Proofs.Ytmkmaeblnnfheaa
open Go.RowKit

theorem next_s (d : ByteArray) (f : Bool) (l n : Int) (LA LB : List Rg) (A : Option Addr) (ca : Nat) (B : Option Addr) (cb : Nat) (k : Int) (w : World) (hA : RngAt w A LA.length LA) (hB : RngAt w B LB.length LB) (eA : A = none → ca = 0) (eB : B = none → cb = 0) (hn : LA.length ≤ 100000) (hn' : LB.length ≤ 100000)
    (hk : 1 ≤ k ∧ k ≤ 1000) (hd : d.size ≤ 1000) (hl : -1000 ≤ l ∧ l ≤ 1000) (hn0 : 0 ≤ n ∧ n ≤ 1000) (hb : ∀ r, r ∈ LB → (0 ≤ r.lo ∧ r.lo ≤ d.size) ∧ r.lo ≤ r.hi ∧ r.hi ≤ 1000) :
    Calls Try.prog 67 #[.agg #[.string d, .bool f, .int .i64 l, .int .i64 n, .slice A LA.length ca, .slice B LB.length cb], .int .i64 k] w (GotNext w (next ⟨d, f, l, n, LA, LB⟩ k)) := by
  cases LB with
  | cons r T =>
    obtain ⟨lo, hi⟩ := r
    obtain ⟨h1, h2⟩ := hb _ List.mem_cons_self
    dsimp only at h1 h2
    by_cases hc1 : hi < (d.size : Int)
    · refine next_lost1 d f l n LA _ A ca B cb k w hA hB eA eB hn hn' hk hd hl hn0 lo hi T rfl h1 h2 (min hi (lo + k - 1)) hc1 rfl _ ?_
      unfold next
      dsimp only
      rw [if_pos (.inl hc1)]
    · by_cases hc2 : k < hi - lo
      · refine next_lost2 d f l n LA _ A ca B cb k w hA hB eA eB hn hn' hk hd hl hn0 lo hi T rfl h1 h2 hc1 hc2 _ ?_
        unfold next
        dsimp only
        rw [if_pos (.inr hc2), show min hi (lo + k - 1) = lo + k - 1 from by omega]
      · refine next_lost3 d f l n LA _ A ca B cb k w hA hB eA eB hn hn' hk hd hl hn0 lo hi T rfl h1 h2 hc1 hc2 _ ?_
        unfold next
        dsimp only
        rw [if_neg (by rintro (e | e) <;> omega)]
  | nil =>
    obtain ⟨m1, hm1⟩ : ∃ m1, (if l < (d.size : Int) then l else (d.size : Int)) = m1 := ⟨_, rfl⟩
    obtain ⟨m2, hm2⟩ : ∃ m2, (if n + k < m1 then n + k else m1) = m2 := ⟨_, rfl⟩
    have e0 : min (d.size : Int) (min l (n + k)) = m2 := by
      have e1 : m1 = min l (d.size : Int) := by rw [← hm1]; split <;> omega
      have e2 : m2 = min (n + k) m1 := by rw [← hm2]; split <;> omega
      omega
    cases f with
    | false =>
      have hx : next ⟨d, false, l, n, LA, []⟩ k = if m2 ≤ n then (⟨d, false, l, n, LA, []⟩, pt0, false) else (⟨d, false, l, m2, LA, []⟩, part ⟨d, false, l, n, LA, []⟩ n (m2 - 1), true) := by
        unfold next
        dsimp only
        rw [e0, show (if false = true ∧ m2 = (d.size : Int) then m2 + 1 else m2) = m2 from if_neg (by rintro ⟨e, _⟩; cases e)]
      by_cases hle : m2 ≤ n
      · exact next_none_f d l n LA _ A ca B cb k w hA hB eA eB hn hn' hk hd hl hn0 rfl m1 m2 hm1 hm2 hle _ (by rw [hx, if_pos hle])
      · exact next_new_f d l n LA _ A ca B cb k w hA hB eA eB hn hn' hk hd hl hn0 rfl m1 m2 hm1 hm2 (by omega) _ (by rw [hx, if_neg hle])
    | true =>
      by_cases hE : m2 = (d.size : Int)
      · have hx : next ⟨d, true, l, n, LA, []⟩ k = if m2 + 1 ≤ n then (⟨d, true, l, n, LA, []⟩, pt0, false) else (⟨d, true, l, m2 + 1, LA, []⟩, part ⟨d, true, l, n, LA, []⟩ n m2, true) := by
          unfold next
          dsimp only
          rw [e0, show (if true = true ∧ m2 = (d.size : Int) then m2 + 1 else m2) = m2 + 1 from if_pos ⟨rfl, hE⟩, show m2 + 1 - 1 = m2 from by omega]
        have hB' : (m2 == (d.size : Int)) = true := by rw [hE]; simp
        by_cases hle : m2 + 1 ≤ n
        · exact next_none_t1 d l n LA _ A ca B cb k w hA hB eA eB hn hn' hk hd hl hn0 rfl m1 m2 hm1 hm2 hB' hle _ (by rw [hx, if_pos hle])
        · exact next_new_t1 d l n LA _ A ca B cb k w hA hB eA eB hn hn' hk hd hl hn0 rfl m1 m2 hm1 hm2 hB' (by omega) _ (by rw [hx, if_neg hle])
      · have hx : next ⟨d, true, l, n, LA, []⟩ k = if m2 ≤ n then (⟨d, true, l, n, LA, []⟩, pt0, false) else (⟨d, true, l, m2, LA, []⟩, part ⟨d, true, l, n, LA, []⟩ n (m2 - 1), true) := by
          unfold next
          dsimp only
          rw [e0, show (if true = true ∧ m2 = (d.size : Int) then m2 + 1 else m2) = m2 from if_neg (by rintro ⟨_, e⟩; exact hE e)]
        have hB' : (m2 == (d.size : Int)) = false := by simpa using hE
        by_cases hle : m2 ≤ n
        · exact next_none_t2 d l n LA _ A ca B cb k w hA hB eA eB hn hn' hk hd hl hn0 rfl m1 m2 hm1 hm2 hB' hle _ (by rw [hx, if_pos hle])
        · exact next_new_t2 d l n LA _ A ca B cb k w hA hB eA eB hn hn' hk hd hl hn0 rfl m1 m2 hm1 hm2 hB' (by omega) _ (by rw [hx, if_neg hle])

end Go.Proofs.Ytmkmaeblnnfheaa
/- SendNext as a plain function; contracts in the form that the walks want. -/
namespace Go.Proofs.Ytmkmaeblnnfheaa
open Go.RowKit
attribute [local irreducible] Go.wpQuiet

noncomputable def sendNext (s : Sd) (k : Int) : Sd × Pt × Bool := if okS s = true ∧ decide (1 ≤ k ∧ k ≤ 12) = true then next s k else (sd0, pt0, false)
theorem got_zero {w w' : World} {v : Value} (h : v = .agg #[.string ⟨#[]⟩, .bool false, .int .i64 0, .int .i64 0, .slice none 0 0, .slice none 0 0]) : GotSd w sd0 v w' :=
  ⟨none, 0, none, 0, h, RngIn.empty _ _ _ _, RngIn.empty _ _ _ _, fun h0 => absurd h0 (by omega)⟩
theorem sv_v_s {d : ByteArray} {f : Bool} {l n : Int} {LA LB : List Rg} {A : Option Addr} {ca : Nat} {B : Option Addr} {cb : Nat} {v : Bool} (hv : okS ⟨d, f, l, n, LA, LB⟩ = v) (w : World) (hA : RngAt w A LA.length LA) (hB : RngAt w B LB.length LB) (hn : LA.length ≤ 2000000) (hn' : LB.length ≤ 2000000) :
    Calls Try.prog 61 #[.agg #[.string d, .bool f, .int .i64 l, .int .i64 n, .slice A LA.length ca, .slice B LB.length cb]] w fun e w' => e = .returned (.bool v) ∧ Below w.heap.size w w' := hv ▸ sv_spec d f l n LA LB A LA.length ca B LB.length cb w hA hB (by omega) (by omega)
theorem sv_v_i {d : ByteArray} {f : Bool} {l n : Int} {LA LB : List Rg} {A : Option Addr} {ca : Nat} {B : Option Addr} {cb : Nat} {v : Bool} (hv : okS ⟨d, f, l, n, LA, LB⟩ = v) (w : World) (hA : RngAt w A LA.length LA) (hB : RngAt w B LB.length LB) (hn : LA.length ≤ 2000000) (hn' : LB.length ≤ 2000000) :
    Calls Try.prog 19 #[.agg #[.string d, .bool f, .int .i64 l, .int .i64 n, .slice A LA.length ca, .slice B LB.length cb]] w fun e w' => e = .returned (.bool v) ∧ Below w.heap.size w w' := hv ▸ sv_impl d f l n LA LB A LA.length ca B LB.length cb w hA hB (by omega) (by omega)
theorem next_v {d : ByteArray} {f : Bool} {l n : Int} {LA LB : List Rg} {A : Option Addr} {ca : Nat} {B : Option Addr} {cb : Nat} {k : Int} {x : Sd × Pt × Bool} (hx : next ⟨d, f, l, n, LA, LB⟩ k = x) (hs : SV ⟨d, f, l, n, LA, LB⟩) (hk : 1 ≤ k ∧ k ≤ 1000) (w : World) (hA : RngAt w A LA.length LA) (hB : RngAt w B LB.length LB) (eA : A = none → ca = 0) (eB : B = none → cb = 0) :
    Calls Try.prog 67 #[.agg #[.string d, .bool f, .int .i64 l, .int .i64 n, .slice A LA.length ca, .slice B LB.length cb], .int .i64 k] w (GotNext w x) := by
  have h1 : d.size ≤ 30 := hs.len
  have h2 : 0 ≤ l := hs.l0
  have h3 : l ≤ 30 := hs.l1
  have h4 : 0 ≤ n := hs.n0
  have h5 : n ≤ 31 := hs.n31
  have h6 : LA.length ≤ 16 := hs.a.1
  have h7 : LB.length ≤ 16 := hs.b.1
  rw [← hx]
  exact next_s d f l n LA LB A ca B cb k w hA hB eA eB (by omega) (by omega) hk (by omega) ⟨by omega, by omega⟩ ⟨h4, by omega⟩ fun r hr => by
    obtain ⟨e1, e2, e3, e4⟩ := hs.lost (r := r) hr
    dsimp only at e3 e4
    exact ⟨⟨e1, by omega⟩, e2, by omega⟩

end Go.Proofs.Ytmkmaeblnnfheaa
/- What the laws say of a part that is sent next. -/
namespace Go.Proofs.Ytmkmaeblnnfheaa

theorem sendNext_yes {s s1 : Sd} {p : Pt} {k : Int} (h : sendNext s k = (s1, p, true)) : SV s ∧ (1 ≤ k ∧ k ≤ 12) ∧ next s k = (s1, p, true) ∧ SV s1 ∧ Sent s1 p ∧ (p.d.size : Int) ≤ k ∧ p.o + p.d.size ≤ s.l := by
  unfold sendNext at h
  split at h
  · rename_i hc
    obtain ⟨h1, h2⟩ := hc
    have h1 := okS_iff.1 h1
    have h2 := of_decide_eq_true h2
    have hg := next_good h1 h2.1
    rw [h] at hg
    obtain ⟨g1, g2⟩ := hg
    obtain ⟨g2, g3, g4⟩ := g2 rfl
    exact ⟨h1, h2, h, g1, g2, g3, g4⟩
  · cases h
/-- New data: ahead of it nothing was lost. -/
theorem next_new {s s1 : Sd} {p : Pt} {k : Int} (hs : SV s) (hk : 1 ≤ k) (h : next s k = (s1, p, true)) (hL : s.L = []) : p.o = s.n ∧ s1.n = p.last + 1 ∧ s1.A = s.A := by
  rcases nx_cases hs hk with ⟨r, T, hi, hL', h0, h1, h2, h3, h4, hk', he, e⟩ | ⟨_, hn, e⟩ | ⟨m, _, h0, h1, hk', hl, he, hr, e⟩
  · rw [hL] at hL'; cases hL'
  · rw [e] at h; cases h
  · rw [e] at h
    cases h
    have hp := (pos_le s).2
    have h5 := (part_last (s := s) hs.n0 (show s.n ≤ m - 1 from by omega) (by omega)).1
    refine ⟨rfl, ?_, rfl⟩
    rw [h5]
    show m = m - 1 + 1
    omega
/-- What was lost is sent again first. -/
theorem next_lost {s s1 : Sd} {p : Pt} {k : Int} (hs : SV s) (hk : 1 ≤ k) (h : next s k = (s1, p, true)) {r : Rg} {T : List Rg} (hL : s.L = r :: T) :
    p.o = r.lo ∧ s1.n = s.n ∧ p.o ≤ p.last ∧ ∀ i, p.o ≤ i → i ≤ p.last → memB s.L i = true ∧ memB s1.L i = false := by
  rcases nx_cases hs hk with ⟨r', T', hi, hL', h0, h1, h2, h3, h4, hk', he, e⟩ | ⟨hL', hn, e⟩ | ⟨m, hL', h0, h1, hk', hl, he, hr, e⟩
  · rw [hL] at hL'
    cases hL'
    rw [e] at h
    cases h
    have h5 := (part_last (s := s) h0 h1 (by omega)).1
    have ho : (part s r.lo hi).o = r.lo := rfl
    refine ⟨rfl, rfl, by omega, fun i i1 i2 => ?_⟩
    rw [ho] at i1
    rw [h5] at i2
    have hm : memB s.L i = true := by
      rw [hL]
      unfold memB
      rw [List.any_cons, Bool.or_eq_true]
      exact .inl (inB_iff.2 ⟨i1, by omega⟩)
    refine ⟨hm, ?_⟩
    show memB (remove s.L r.lo hi) i = false
    rw [mem_remove hs.b.2.1 h1, hm, decide_eq_true (show r.lo ≤ i ∧ i ≤ hi from ⟨i1, i2⟩)]
    rfl
  · rw [hL] at hL'; cases hL'
  · rw [hL] at hL'; cases hL'
/-- When there is a part to send. -/
theorem next_when {s : Sd} {k : Int} (hs : SV s) (hk : 1 ≤ k) : (next s k).2.2 = decide (s.L ≠ [] ∨ s.n < min (s.d.size : Int) s.l ∨ (s.f = true ∧ s.n = s.d.size ∧ (s.d.size : Int) ≤ s.l)) ∧ ((next s k).2.2 = false → (next s k).1 = s) := by
  rcases nx_cases hs hk with ⟨r, T, hi, hL, h0, h1, h2, h3, h4, hk', he, e⟩ | ⟨hL, hn, e⟩ | ⟨m, hL, h0, h1, hk', hl, he, hr, e⟩
  · rw [e]
    refine ⟨(decide_eq_true (.inl (by rw [hL]; intro e; cases e))).symm, fun e => by cases e⟩
  · rw [e]
    refine ⟨(decide_eq_false (by rintro (e | e); exact e hL; exact hn e)).symm, fun _ => rfl⟩
  · rw [e]
    exact ⟨(decide_eq_true (.inr hr)).symm, fun e => by cases e⟩
end Go.Proofs.Ytmkmaeblnnfheaa
/- Drawing numbers from a code: the reader (a block of its own that holds the bytes and a place), and what one pick does. -/
namespace Go.Proofs.Ytmkmaeblnnfheaa
open Go.RowKit

/-- Bytes in a row. -/
def BytesAt (w : World) (a : Option Addr) (l B : Nat) (zs : List Int) : Prop :=
  l = 0 ∨ ∃ b off, a = some ⟨b, off, none⟩ ∧ b < B ∧ (∀ i, i < l → w.cell? ⟨b, off + i, none⟩ = some (.int .u8 (zs.getD i 0))) ∧ ∀ i, 0 ≤ zs.getD i 0 ∧ zs.getD i 0 ≤ 255

/-- Block rb is a reader that has made at most n picks. -/
def Rd (w : World) (B rb n : Nat) : Prop :=
  ∃ (a : Option Addr) (l c p : Nat) (zs : List Int), w.heap[rb]? = some (.cells #[.slice a l c, .int .i64 p] 99 (0, 0)) ∧ l ≤ 2000 ∧ p ≤ n ∧ B ≤ rb ∧ BytesAt w a l B zs

/-- What a pick of fewer than m leaves: a number below m; the reader alone has turned. -/
def Picked (w : World) (B rb n : Nat) (m : Int) (e : Ending) (w' : World) : Prop :=
  ∃ k : Int, e = .returned (.int .i64 k) ∧ 0 ≤ k ∧ k < m ∧ Rd w' B rb (n + 1) ∧ w.grownBy w' (some rb)

variable {B : Nat}
theorem rd_step {w : World} {rb n : Nat} {a : Option Addr} {l c p : Nat} {zs : List Int} (h : w.heap[rb]? = some (.cells #[.slice a l c, .int .i64 p] 99 (0, 0))) (hl : l ≤ 2000) (hp : p ≤ n) (hB : B ≤ rb) (hb : BytesAt w a l B zs) (d : Nat) :
    Rd ((w.setCell ⟨rb, 1, none⟩ (.int .i64 ((p : Int) + 1))).drewN d) B rb (n + 1) ∧ w.grownBy ((w.setCell ⟨rb, 1, none⟩ (.int .i64 ((p : Int) + 1))).drewN d) (some rb) := by
  refine ⟨⟨a, l, c, p + 1, zs, ?_, hl, by omega, hB, ?_⟩, ⟨rfl, rfl, rfl, by simp [World.setCell, World.drewN], fun k _ hk => ?_⟩⟩
  · show (w.setCell ⟨rb, 1, none⟩ (.int .i64 ((p : Int) + 1))).heap[rb]? = _
    simp only [World.setCell, Array.getElem?_modify, h]
    simp
  · rcases hb with hb | ⟨b, off, ha, hne, hc, hz⟩
    · exact .inl hb
    · refine .inr ⟨b, off, ha, hne, fun i hi => ?_, hz⟩
      exact (World.cell?_of_block (w := w) (a := ⟨b, off + i, none⟩) (Below.heap_setCell w ⟨rb, 1, none⟩ _ b (by show b ≠ rb; omega))).trans (hc i hi)
  · exact Below.heap_setCell w ⟨rb, 1, none⟩ _ k (fun e => hk (by rw [e]))

theorem i64_xor_nonneg (x y : Int) (hx : 0 ≤ x) (hx' : x < 9223372036854775808) (hy : 0 ≤ y) (hy' : y < 9223372036854775808) : 0 ≤ bits .xor .i64 x y := by
  obtain ⟨a, rfl⟩ := Int.eq_ofNat_of_zero_le hx
  obtain ⟨b, rfl⟩ := Int.eq_ofNat_of_zero_le hy
  have ha : a < 9223372036854775808 := by omega
  have hb : b < 9223372036854775808 := by omega
  have hn : ∀ c : Nat, c < 9223372036854775808 → (BitVec.ofInt 64 (c : Int)).toNat = c := by
    intro c hc
    rw [BitVec.ofInt_natCast, BitVec.toNat_ofNat]
    exact Nat.mod_eq_of_lt (by omega)
  have hlt : a ^^^ b < 2 ^ 63 := Nat.xor_lt_two_pow (by omega) (by omega)
  show 0 ≤ IntKind.i64.wrap ((BitVec.ofInt 64 (a : Int) ^^^ BitVec.ofInt 64 (b : Int)).toNat : Int)
  rw [BitVec.toNat_xor, hn a ha, hn b hb, IntKind.wrap_i64]
  omega

set_option maxHeartbeats 1000000 in
theorem pick_any (w : World) (rb n : Nat) (m : Int) (h : Rd w B rb n) (hn : n ≤ 1000000000) (hm : 1 ≤ m) (hm' : m ≤ 1000000) :
    Calls Try.prog 63 #[.pointer (some ⟨rb, 0, none⟩), .int .i64 m] w (Picked w B rb n m) := by
  obtain ⟨a, l, c, p, zs, hblk, hl, hp, hB, hbytes⟩ := h
  have c0 := cell_of_row _ _ 0 _ _ _ hblk
  have c1 := cell_of_row _ _ 1 _ _ _ hblk
  have f0 := frozen_of_row w rb 0 _ _ hblk
  have f1 := frozen_of_row w rb 1 _ _ hblk
  simp at c0 c1
  by_cases hl0 : l = 0
  · subst hl0
    have step := rd_step hblk hl hp hB hbytes 0
    have S := Lib.hid step
    clear step
    go_enter Try.func63, Try.ntmps63
    go_wp2
    go_returns
    exact ⟨0, rfl, by omega, by omega, S.out⟩
  · obtain ⟨b, off, rfl, hne, hc, hz⟩ := hbytes.resolve_left hl0
    have hlp : (0 : Int) < (l : Int) := by omega
    have hle : ((l : Int) == 0) = false := by simp; omega
    have cell : ∀ i, i < l → (w.setCell ⟨rb, 1, none⟩ (.int .i64 ((p : Int) + 1))).cell? ⟨b, off + i, none⟩ = some (.int .u8 (zs.getD i 0)) := fun i hi =>
      (World.cell?_of_block (w := w) (a := ⟨b, off + i, none⟩) (Below.heap_setCell w ⟨rb, 1, none⟩ _ b (by show b ≠ rb; omega))).trans (hc i hi)
    by_cases hlt : p < l
    · have step := rd_step hblk hl hp hB hbytes 0
      have S := Lib.hid step
      have hcp := cell p hlt
      have hzp := hz p
      obtain ⟨z, hzz⟩ : ∃ z, z = zs.getD p 0 := ⟨_, rfl⟩
      rw [← hzz] at hcp hzp
      obtain ⟨hz0, hz1⟩ := hzp
      clear step cell hz hc hzz
      go_enter Try.func63, Try.ntmps63
      go_wp2
      go_returns
      exact ⟨z % m, rfl, Int.emod_nonneg _ (by omega), Int.emod_lt_of_pos _ (by omega), S.out⟩
    · have hpl : (l : Int) ≤ (p : Int) := by omega
      have hnl : decide ((p : Int) < (l : Int)) = false := by simp; omega
      have h1 : p % l < l := Nat.mod_lt _ (by omega)
      have h2 : (p * 7 + 3) % l < l := Nat.mod_lt _ (by omega)
      have hc1 := cell _ h1
      have hc2 := cell _ h2
      obtain ⟨z1, hz1⟩ : ∃ z, z = zs.getD (p % l) 0 := ⟨_, rfl⟩
      obtain ⟨z2, hz2⟩ : ∃ z, z = zs.getD ((p * 7 + 3) % l) 0 := ⟨_, rfl⟩
      have g1 := hz (p % l)
      have g2 := hz ((p * 7 + 3) % l)
      rw [← hz1] at hc1 g1
      rw [← hz2] at hc2 g2
      obtain ⟨g1, g1'⟩ := g1
      obtain ⟨g2, g2'⟩ := g2
      have b1 : 0 ≤ (p : Int) % (l : Int) := Int.emod_nonneg _ (by omega)
      have b1' : (p : Int) % (l : Int) < (l : Int) := Int.emod_lt_of_pos _ hlp
      have b2 : 0 ≤ ((p : Int) * 7 + 3) % (l : Int) := Int.emod_nonneg _ (by omega)
      have b2' : ((p : Int) * 7 + 3) % (l : Int) < (l : Int) := Int.emod_lt_of_pos _ hlp
      have t2 : (((p : Int) * 7 + 3) % (l : Int)).toNat = (p * 7 + 3) % l := by
        rw [show ((p : Int) * 7 + 3) % (l : Int) = (((p * 7 + 3) % l : Nat) : Int) from by push_cast; rfl]
        exact Int.toNat_natCast _
      have q1 : 0 ≤ (p : Int) / (l : Int) := Int.ediv_nonneg (by omega) (by omega)
      have q1' : (p : Int) / (l : Int) ≤ (p : Int) := Int.ediv_le_self _ (by omega)
      have step := rd_step hblk hl hp hB hbytes
      have S := Lib.hid step
      have hplo : p ≤ 1000000000 := by omega
      clear step cell hz hc hz1 hz2
      go_enter Try.func63, Try.ntmps63
      go_wp2
      refine wp_region_quiet_lit (by kernel_rfl) (by kernel_rfl) ?_
      repeat (any_goals (first | go_big_quiet_step (fail) | quiet_step (fail)))
      all_goals (refine wpQuiet_nil ?_; intro _ hw'; obtain ⟨nq, hw''⟩ := hw'; subst hw'')
      obtain ⟨X, hX⟩ : ∃ X, X = z1 * 131 + z2 * 1117 + ↑p * 29 + ↑p / ↑l * 53 := ⟨_, rfl⟩
      have hX0 : 0 ≤ X := by omega
      have hX1 : X ≤ 1000000000000 := by omega
      rw [← hX]
      have hx := i64_xor_nonneg X (X / 64) hX0 (by omega) (by omega) (by omega)
      clear hX
      go_wp2
      go_returns
      exact ⟨_, rfl, Int.emod_nonneg _ (by omega), Int.emod_lt_of_pos _ (by omega), S.out nq⟩

theorem Rd.far {w w' : World} {rb n : Nat} {row : Option Nat} (h : Rd w B rb n) (hg : w.grownBy w' row) (hr : ∀ b, row = some b → w.heap.size ≤ b) : Rd w' B rb n := by
  obtain ⟨a, l, c, p, zs, hblk, hl, hp, hB, hb⟩ := h
  have lt : ∀ b, (w.heap[b]?).isSome = true → some b ≠ row := by
    intro b hb e
    have := hr b e.symm
    rw [Array.getElem?_eq_none this] at hb
    cases hb
  refine ⟨a, l, c, p, zs, ?_, hl, hp, hB, ?_⟩
  · rw [hg.block rb (Array.getElem?_eq_some_iff.1 hblk).1 (lt rb (by rw [hblk]; rfl))]
    exact hblk
  · rcases hb with hb | ⟨b, off, ha, hne, hc, hz⟩
    · exact .inl hb
    · refine .inr ⟨b, off, ha, hne, fun i hi => ?_, hz⟩
      refine hg.cell (hc i hi) fun e => ?_
      have hlt := World.block_lt_of_cell? w _ (hc i hi)
      exact lt b (by rw [Array.getElem?_eq_getElem hlt]; rfl) e
theorem Rd.alloc {w : World} {rb n : Nat} (h : Rd w B rb n) (o : Obj) : Rd (w.alloc o) B rb n := h.far (World.grownBy_alloc w o none) (fun _ e => by cases e)
theorem Rd.setCell {w : World} {rb n : Nat} (h : Rd w B rb n) {p : Addr} (hp : rb < p.block) (u : Value) : Rd (w.setCell p u) B rb n := by
  obtain ⟨a, l, c, q, zs, hblk, hl, hq, hB, hb⟩ := h
  refine ⟨a, l, c, q, zs, (Below.heap_setCell w p u rb (by omega)).trans hblk, hl, hq, hB, ?_⟩
  rcases hb with hb | ⟨b, off, ha, hne, hc, hz⟩
  · exact .inl hb
  · exact .inr ⟨b, off, ha, hne, fun i hi => (World.cell?_of_block (w := w) (a := ⟨b, off + i, none⟩) (Below.heap_setCell w p u b (by omega))).trans (hc i hi), hz⟩
/-- A store into a block from B on that is not the reader's. -/
theorem Rd.store {w : World} {rb n : Nat} (h : Rd w B rb n) {p : Addr} (hp : B ≤ p.block) (hr : p.block ≠ rb) (u : Value) : Rd (w.setCell p u) B rb n := by
  obtain ⟨a, l, c, q, zs, hblk, hl, hq, hB, hb⟩ := h
  refine ⟨a, l, c, q, zs, (Below.heap_setCell w p u rb (by omega)).trans hblk, hl, hq, hB, ?_⟩
  rcases hb with hb | ⟨b, off, ha, hne, hc, hz⟩
  · exact .inl hb
  · exact .inr ⟨b, off, ha, hne, fun i hi => (World.cell?_of_block (w := w) (a := ⟨b, off + i, none⟩) (Below.heap_setCell w p u b (by omega))).trans (hc i hi), hz⟩
theorem Rd.lt {w : World} {rb n : Nat} (h : Rd w B rb n) : rb < w.heap.size := by
  obtain ⟨_, _, _, _, _, hblk, _⟩ := h
  exact (Array.getElem?_eq_some_iff.1 hblk).1
theorem Rd.mono {w : World} {rb n m : Nat} (h : Rd w B rb n) (hm : n ≤ m) : Rd w B rb m := by
  obtain ⟨a, l, c, p, zs, hblk, hl, hp, hB, hb⟩ := h
  exact ⟨a, l, c, p, zs, hblk, hl, by omega, hB, hb⟩
theorem Rd.drewN {w : World} {rb n : Nat} (h : Rd w B rb n) (d : Nat) : Rd (w.drewN d) B rb n := h

/-- Two steps that turn the reader alone (or what is new). -/
theorem grown_trans {a b c : World} {row : Option Nat} (h : a.grownBy b row) (k : b.grownBy c row) : a.grownBy c row :=
  ⟨k.os.trans h.os, k.tape.trans h.tape, k.output.trans h.output, Nat.le_trans h.size k.size, fun i hi hne => (k.block i (Nat.lt_of_lt_of_le hi h.size) hne).trans (h.block i hi hne)⟩
theorem grown_alloc {a b : World} {row : Option Nat} (h : a.grownBy b row) (o : Obj) : a.grownBy (b.alloc o) row :=
  ⟨h.os, h.tape, h.output, Nat.le_trans h.size (by simp), fun i hi hne => (Below.heap_alloc b o i (Nat.lt_of_lt_of_le hi h.size)).trans (h.block i hi hne)⟩
theorem grown_setCell {a b : World} {row : Option Nat} (h : a.grownBy b row) {p : Addr} (hp : a.heap.size ≤ p.block) (u : Value) : a.grownBy (b.setCell p u) row :=
  ⟨h.os, h.tape, h.output, by simpa [World.setCell] using h.size, fun i hi hne => (Below.heap_setCell b p u i (by omega)).trans (h.block i hi hne)⟩
theorem grown_drewN {a b : World} {row : Option Nat} (h : a.grownBy b row) (n : Nat) : a.grownBy (b.drewN n) row := ⟨h.os, h.tape, h.output, h.size, h.block⟩
theorem grown_drew {a b : World} {row : Option Nat} (h : a.grownBy b row) : a.grownBy b.drew row := ⟨h.os, h.tape, h.output, h.size, h.block⟩
theorem grown_refl (a : World) (row : Option Nat) : a.grownBy a row := ⟨rfl, rfl, rfl, Nat.le_refl _, fun _ _ _ => rfl⟩
/-- What was below a block that is new when the reader was, is as it was. -/
theorem below_of_grown {B : Nat} {a b : World} {rb : Nat} (h : a.grownBy b (some rb)) (hB : B ≤ rb) (hs : rb ≤ a.heap.size) : Below B a b :=
  ⟨h.os, h.tape, h.output, h.size, fun k hk => h.block k (by omega) (by intro e; injection e; omega)⟩

/-- A number from lo to hi was drawn by k picks. -/
def Drawn (w : World) (B rb n k : Nat) (lo hi : Int) (e : Ending) (w' : World) : Prop :=
  ∃ v : Int, e = .returned (.int .i64 v) ∧ lo ≤ v ∧ v ≤ hi ∧ Rd w' B rb (n + k) ∧ w.grownBy w' (some rb)

end Go.Proofs.Ytmkmaeblnnfheaa
/- A code is opened; tokens, times, sizes are drawn. -/
namespace Go.Proofs.Ytmkmaeblnnfheaa
open Go.RowKit

/-- The reader that a code opens: block w.heap.size. -/
def Opened (B : Nat) (w : World) (e : Ending) (w' : World) : Prop :=
  ∃ o, e = .returned (.pointer (some ⟨w.heap.size, 0, none⟩)) ∧ w' = w.alloc o ∧ Rd w' B w.heap.size 0

theorem IsRow.alloc {k : IntKind} {w : World} {a : Option Addr} {len cap : Nat} {zs : List Int} (h : IsRow k w a len cap zs) (o : Obj) : IsRow k (w.alloc o) a len cap zs := by
  rcases h with h | ⟨x, rfl, hl, hm, hz, hc, hw⟩
  · exact .inl h
  · exact .inr ⟨x, rfl, hl, hm, hz, fun i hi => by
      have h1 := hc i hi
      rw [World.cell?_alloc_lt _ _ _ (World.block_lt_of_cell? w _ h1)]
      exact h1, hw⟩

/-- 'base' is the world in which the row came in: its blocks lie below. -/
theorem open_any (base w : World) (a : Option Addr) (len cap : Nat) (zs : List Int) (h0 : IsRow .u8 base a len cap zs) (h : IsRow .u8 w a len cap zs) (hbw : base.heap.size ≤ w.heap.size) :
    Calls Try.prog 58 #[.slice a len cap] w (Opened base.heap.size w) := by
  have lowest : ∀ x, a = some x → 0 < len → x.block < base.heap.size := by
    intro x hx hl0
    rcases h0 with ⟨rfl, _⟩ | ⟨y, rfl, hl, _, hz, hcell, _⟩
    · cases hx
    · cases hx
      have := World.block_lt_of_cell? base _ (hcell 0 (by omega))
      simpa [Addr.add] using this
  clear h0
  rcases h with ⟨rfl, rfl, rfl, rfl⟩ | ⟨x, rfl, hl, hm, hz, hcell, hwz⟩
  · clear lowest
    go_enter Try.func58, Try.ntmps58
    go_wp2
    go_returns
    exact ⟨_, rfl, rfl, none, 0, 0, 0, [], heap_alloc_new _ _, by omega, by omega, hbw, .inl rfl⟩
  · have hz' : ∀ i, 0 ≤ zs.getD i 0 ∧ zs.getD i 0 ≤ 255 := by
      intro i
      by_cases hi : i < zs.length
      · have hw := hwz (zs.getD i 0) (by rw [List.getD_eq_getElem?_getD, List.getElem?_eq_getElem hi]; exact List.getElem_mem hi)
        have h0 : IntKind.u8.min = 0 := rfl
        have h1 : IntKind.u8.max = 255 := rfl
        simp [Lit.wf, h0, h1] at hw
        rw [List.getD_eq_getElem?_getD]
        exact hw
      · simp [List.getD_eq_getElem?_getD, List.getElem?_eq_none (by omega : zs.length ≤ i)]
    have bytes : ∀ (l : Nat) (o : Obj), l ≤ len → BytesAt (w.alloc o) (some x) l base.heap.size zs := by
      intro l o hll
      by_cases h0 : l = 0
      · exact .inl h0
      · obtain ⟨b, off, spot⟩ := x
        have hc := hcell 0 (by omega)
        have hspot : spot = none := by simpa [Addr.add] using World.cell?_spot hc
        subst hspot
        have hlt := World.block_lt_of_cell? w _ hc
        simp [Addr.add] at hlt
        refine .inr ⟨b, off, rfl, lowest _ rfl (by omega), fun i hi => ?_, hz'⟩
        have := hcell i (by omega)
        rw [Addr.add_lit] at this
        rw [World.cell?_alloc_past _ _ _ hlt]
        exact this
    unfold maxLen at hm
    by_cases h2 : len ≤ 2000
    · have hb := Lib.hid bytes
      clear bytes hcell hwz hz' lowest
      go_enter Try.func58, Try.ntmps58
      go_wp2
      go_returns
      exact ⟨_, rfl, rfl, some x, len, cap, 0, zs, heap_alloc_new _ _, h2, by omega, hbw, hb.out len _ (Nat.le_refl _)⟩
    · have hb := Lib.hid bytes
      have h2' : 2000 < len := by omega
      clear bytes hcell hwz hz' lowest h2
      go_enter Try.func58, Try.ntmps58
      go_wp2
      go_returns
      exact ⟨_, rfl, rfl, some x, 2000, cap, 0, zs, heap_alloc_new _ _, by omega, by omega, hbw, hb.out 2000 _ (by omega)⟩

end Go.Proofs.Ytmkmaeblnnfheaa
/- Parts in memory: three cells each. -/
namespace Go.Proofs.Ytmkmaeblnnfheaa
open Go.RowKit

def pth (L : List Pt) (i : Nat) : Pt := L.getD i pt0
theorem pth_mem {L : List Pt} {i : Nat} (h : i < L.length) : pth L i ∈ L := by
  unfold pth
  rw [List.getD_eq_getElem?_getD, List.getElem?_eq_getElem h]
  exact List.getElem_mem h
def pcells (L : List Pt) : List Value := L.flatMap fun c => [.int .i64 c.o, .string c.d, .bool c.f]
theorem pcells_cons (c : Pt) (L : List Pt) : pcells (c :: L) = .int .i64 c.o :: .string c.d :: .bool c.f :: pcells L := by unfold pcells; simp
theorem pcells_append (L M : List Pt) : pcells (L ++ M) = pcells L ++ pcells M := by unfold pcells; simp
theorem pcells_len : ∀ L : List Pt, (pcells L).length = L.length * 3
  | [] => rfl
  | c :: L => by rw [pcells_cons]; simp [pcells_len L]; omega
theorem pcells_at : ∀ {L : List Pt} {i : Nat}, i < L.length → (pcells L)[i * 3]? = some (.int .i64 (pth L i).o) ∧ (pcells L)[i * 3 + 1]? = some (.string (pth L i).d) ∧ (pcells L)[i * 3 + 2]? = some (.bool (pth L i).f)
  | [], i, h => by simp at h
  | c :: L, 0, _ => by rw [pcells_cons]; exact ⟨rfl, rfl, rfl⟩
  | c :: L, i + 1, h => by
    have ih := pcells_at (L := L) (i := i) (by simpa using h)
    have e : pth (c :: L) (i + 1) = pth L i := rfl
    rw [pcells_cons, e, show (i + 1) * 3 = i * 3 + 1 + 1 + 1 from by omega]
    exact ih
theorem pcells_one (L : List Pt) : ∀ u, u ∈ pcells L → u.oneCell' = true := by
  induction L with
  | nil => intro u hu; simp [pcells] at hu
  | cons c L ih =>
    intro u hu
    rw [pcells_cons] at hu
    rcases List.mem_cons.1 hu with rfl | hu
    · rfl
    rcases List.mem_cons.1 hu with rfl | hu
    · rfl
    rcases List.mem_cons.1 hu with rfl | hu
    · rfl
    exact ih u hu
theorem info_prt : (Try.prog.info? 27).map (fun i => (i.zero, i.size, i.bytes)) = some (some (.agg #[.int .i64 0, .string ⟨#[]⟩, .bool false]), 3, 32) := by kernel_rfl

/-- A slice of parts of our own, in a block from B on and below S. -/
def PrtIn (w : World) (B S : Nat) (A : Option Addr) (n c : Nat) (L : List Pt) : Prop := L.length = n ∧ RowIn 27 3 w B S A n c (pcells L)

section
variable {w w' : World} {B S B' S' rb : Nat} {A : Option Addr} {n c : Nat} {L : List Pt}
theorem PrtIn.cap (h : PrtIn w B S A n c L) : n ≤ c ∧ c ≤ maxLen := h.2.cap
theorem PrtIn.touch (h : PrtIn w B S A n c L) (t : Touch w w' B' S') (hd : S ≤ B' ∨ S' ≤ B) : PrtIn w' B S A n c L := ⟨h.1, h.2.touch t hd⟩
theorem PrtIn.below (h : PrtIn w B S A n c L) (hb : Below w.heap.size w w') : PrtIn w' B S A n c L := ⟨h.1, h.2.below hb⟩
theorem PrtIn.alloc (h : PrtIn w B S A n c L) (o : Obj) : PrtIn (w.alloc o) B S A n c L := ⟨h.1, h.2.alloc o⟩
theorem PrtIn.drew (h : PrtIn w B S A n c L) : PrtIn w.drew B S A n c L := h
theorem PrtIn.drewN (h : PrtIn w B S A n c L) (m : Nat) : PrtIn (w.drewN m) B S A n c L := h
theorem PrtIn.mono (h : PrtIn w B S A n c L) (h1 : B' ≤ B) (h2 : S ≤ S') : PrtIn w B' S' A n c L := ⟨h.1, h.2.mono h1 h2⟩
theorem PrtIn.empty {A : Option Addr} (w : World) (B S : Nat) : PrtIn w B S A 0 0 [] := ⟨rfl, RowIn.empty _ _ _ _ _⟩
theorem PrtIn.setLow (h : PrtIn w B S A n c L) {p : Addr} (hp : p.block < B) (u : Value) : PrtIn (w.setCell p u) B S A n c L :=
  ⟨h.1, RowIn.same h.2 (by simp [World.setCell]) fun g e hb _ => Below.heap_setCell w p u g (by omega)⟩
theorem PrtIn.far (h : PrtIn w B S A n c L) (hg : w.grownBy w' (some rb)) (hrb : rb < B) : PrtIn w' B S A n c L := by
  refine ⟨h.1, h.2.1, ?_⟩
  rcases h.2.2 with h0 | ⟨ho, g, rfl, h1, h2, h3⟩
  · exact .inl h0
  · have hr : RowIn 27 3 w B S (some ⟨g, 0, none⟩) n c (pcells L) := ⟨h.2.1, .inr ⟨ho, g, rfl, h1, h2, h3⟩⟩
    rcases (RowIn.same hr (w' := w') hg.size fun g' e hb _ => by cases e; exact hg.block g h3 (by intro e; injection e with e; omega)).2 with h0 | h0
    · exact .inl h0
    · exact .inr h0
/-- Where it lies, and what its cells hold. -/
theorem PrtIn.at_ (h : PrtIn w B S A n c L) (hn : 0 < n) : ∃ g, A = some ⟨g, 0, none⟩ ∧ B ≤ g ∧ g < S ∧ g < w.heap.size ∧
    ∀ i, i < n → w.cell? ⟨g, i * 3, none⟩ = some (.int .i64 (pth L i).o) ∧ w.cell? ⟨g, i * 3 + 1, none⟩ = some (.string (pth L i).d) ∧ w.cell? ⟨g, i * 3 + 2, none⟩ = some (.bool (pth L i).f) := by
  obtain ⟨g, rfl, hb, hs, hw, hc, hf⟩ := h.2.blk hn
  refine ⟨g, rfl, hb, hs, hw, fun i hi => ?_⟩
  obtain ⟨e1, e2, e3⟩ := pcells_at (L := L) (i := i) (by rw [h.1]; exact hi)
  exact ⟨(hc _ (by omega)).trans e1, (hc _ (by omega)).trans e2, (hc _ (by omega)).trans e3⟩
theorem PrtIn.of_own {v : Value} (h : w.ownsRow B 27 3 v n (pcells L)) : ∃ A c, v = .slice A n c ∧ PrtIn w B w.heap.size A n c L := by
  obtain ⟨A, c, e, hr⟩ := RowIn.of_own h
  have hl := hr.1
  rw [pcells_len] at hl
  exact ⟨A, c, e, by omega, hr⟩
end

theorem PrtIn.tight {w : World} {Lo Hi : Nat} {A : Option Addr} {n c : Nat} {L : List Pt} (h : PrtIn w Lo Hi A n c L) (hn : 0 < n) : ∃ g, A = some ⟨g, 0, none⟩ ∧ Lo ≤ g ∧ g < Hi ∧ PrtIn w g (g + 1) A n c L := by
  rcases h.2.2 with ⟨h0, _⟩ | ⟨ho, g, rfl, r1, r2, r3⟩
  · omega
  · refine ⟨g, rfl, r1, r2, h.1, h.2.1, .inr ⟨⟨ho.1, ?_⟩, g, rfl, Nat.le_refl _, Nat.lt_succ_self _, r3⟩⟩
    rcases ho.2 with e | ⟨g', c', cur, e, q1, q⟩
    · exact .inl e
    · cases e
      exact .inr ⟨g, c, cur, rfl, Nat.le_refl _, q⟩
theorem PrtIn.kind {w : World} {Lo Hi g : Nat} {n c : Nat} {L : List Pt} (h : PrtIn w Lo Hi (some ⟨g, 0, none⟩) n c L) (hn : 0 < n) : ∃ cur, w.heap[g]? = some (.cells cur 27 (0, 0)) := by
  rcases h.2.2 with ⟨h0, _⟩ | ⟨ho, _⟩
  · omega
  · rcases ho.2 with ⟨e, _⟩ | ⟨g', c', cur, e, _, q, _⟩
    · cases e
    · cases e
      exact ⟨cur, q⟩
theorem RngIn.kind {w : World} {Lo Hi g : Nat} {n c : Nat} {L : List Rg} (h : RngIn w Lo Hi (some ⟨g, 0, none⟩) n c L) (hn : 0 < n) : ∃ cur, w.heap[g]? = some (.cells cur 40 (0, 0)) := by
  rcases h.2.2 with ⟨h0, _⟩ | ⟨ho, _⟩
  · omega
  · rcases ho.2 with ⟨e, _⟩ | ⟨g', c', cur, e, _, q, _⟩
    · cases e
    · cases e
      exact ⟨cur, q⟩
theorem RngIn.tight' {w : World} {Lo Hi : Nat} {A : Option Addr} {n c : Nat} {L : List Rg} (h : RngIn w Lo Hi A n c L) (hn : 0 < n) : ∃ g, A = some ⟨g, 0, none⟩ ∧ Lo ≤ g ∧ g < Hi ∧ RngIn w g (g + 1) A n c L := by
  rcases h.2.2 with ⟨h0, _⟩ | ⟨ho, g, rfl, r1, r2, r3⟩
  · omega
  · refine ⟨g, rfl, r1, r2, h.1, h.2.1, .inr ⟨⟨ho.1, ?_⟩, g, rfl, Nat.le_refl _, Nat.lt_succ_self _, r3⟩⟩
    rcases ho.2 with e | ⟨g', c', cur, e, q1, q⟩
    · exact .inl e
    · cases e
      exact .inr ⟨g, c, cur, rfl, Nat.le_refl _, q⟩
/-- Ranges and parts never share a block. -/
theorem RngIn.keeps {w w' : World} {Lo Hi : Nat} {A : Option Addr} {n c : Nat} {L : List Rg} (h : RngIn w Lo Hi A n c L) {g : Nat} (hg : ∃ cur, w.heap[g]? = some (.cells cur 27 (0, 0))) (t : Touch w w' g (g + 1)) : RngIn w' Lo Hi A n c L := by
  rcases Nat.eq_zero_or_pos n with e | hn
  · subst e
    rcases h.2.2 with ⟨_, hc⟩ | ⟨ho, q, rfl, r1, r2, r3⟩
    · exact ⟨h.1, h.2.1, .inl ⟨rfl, hc⟩⟩
    · have hne : q ≠ g := by
        rintro rfl
        obtain ⟨cur, hg⟩ := hg
        rcases ho.2 with ⟨e, _⟩ | ⟨g', c', cur', e, _, q', _⟩
        · cases e
        · cases e
          rw [hg] at q'
          injection q' with q'
          injection q' with _ q'
          exact absurd q' (by decide)
      have hr : RowIn 40 2 w Lo Hi (some ⟨q, 0, none⟩) 0 c (rcells L) := ⟨h.2.1, .inr ⟨ho, q, rfl, r1, r2, r3⟩⟩
      exact ⟨h.1, RowIn.same hr t.size fun q' e _ _ => by cases e; exact t.block q r3 (by omega)⟩
  · obtain ⟨q, rfl, r1, r2, r⟩ := h.tight' hn
    have hne : q ≠ g := by
      rintro rfl
      obtain ⟨cur, hg⟩ := hg
      obtain ⟨cur', q'⟩ := h.kind hn
      rw [hg] at q'
      injection q' with q'
      injection q' with _ q'
      exact absurd q' (by decide)
    exact (r.touch t (by omega)).mono r1 (by omega)

section
variable {ops : Array Oper} {rest : List Oper} {o : Oper} {a : Act} {Q : Exit → Act → World → Prop}
/-- One part is appended. -/
theorem wpList_snoc_prt (w : World) (hg : o.guard = none) (s x : Operand) (hop : o.op = Op.call { callee := Callee.builtin Builtin.append, args := #[s, x], argTypes := #[79, 79] })
    {B S n c gx : Nat} {A : Option Addr} {L : List Pt} (y : Pt) (hs : a.eval s = .slice A n c) (h : PrtIn w B S A n c L) (hB : B ≤ w.heap.size) (hn : n ≤ 2000000)
    (hx : a.eval x = .slice (some ⟨gx, 0, none⟩) 1 1) (hc0 : w.cell? ⟨gx, 0, none⟩ = some (.int .i64 y.o)) (hc1 : w.cell? ⟨gx, 1, none⟩ = some (.string y.d)) (hc2 : w.cell? ⟨gx, 2, none⟩ = some (.bool y.f))
    (hK : ∀ A' c' w', PrtIn w' B w'.heap.size A' (n + 1) c' (L ++ [y]) → Touch w w' B S → wpList Try.prog ops Q rest (a.put o.dst (.slice A' (n + 1) c')) w') :
    wpList Try.prog ops Q (o :: rest) a w := by
  obtain ⟨i0, hi0, hz0, hz1, hz2⟩ := info_parts info_prt
  have hnews : ∀ j u, (pcells [y])[j]? = some u → w.cell? ((⟨gx, 0, none⟩ : Addr).add j) = some u := by
    intro j u hj
    rw [Addr.add_lit, Nat.zero_add]
    have e : pcells [y] = [.int .i64 y.o, .string y.d, .bool y.f] := rfl
    rw [e] at hj
    match j, hj with
    | 0, hj => simp at hj; rw [hc0, hj]
    | 1, hj => simp at hj; rw [hc1, hj]
    | 2, hj => simp at hj; rw [hc2, hj]
    | j + 3, hj => simp at hj
  have hlen := h.2.len
  rcases h.2.2 with ⟨rfl, rfl⟩ | ⟨ho, g, rfl, h1, h2, h3⟩
  · obtain rfl : L = [] := List.eq_nil_of_length_eq_zero h.1
    refine wpList_append_grows w hg s x _ hop 27 i0 (.agg #[.int .i64 0, .string ⟨#[]⟩, .bool false]) 3 32 Try.underlying79 hi0 hz0 hz1 hz2 rfl (by decide) A 0 0 [] hs (fun _ => ⟨rfl, rfl⟩) rfl (fun _ _ _ _ e => by simp at e) ⟨gx, 0, none⟩ 1 1 (pcells [y]) hx (by rw [pcells_len]; rfl) hnews (pcells_one [y]) (by omega) (by unfold maxLen; omega) (by omega) fun v' w' hown' hgr => ?_
    obtain ⟨A', c', rfl, hr⟩ := PrtIn.of_own (n := 0 + 1) (L := [y]) (by simpa using hown')
    exact hK _ _ _ (hr.mono hB (Nat.le_refl _)) ⟨hgr.os, hgr.tape, hgr.output, hgr.size, fun k hk _ => hgr.block k hk (by simp)⟩
  · refine wpList_append_own w hg s x _ hop B 27 i0 (.agg #[.int .i64 0, .string ⟨#[]⟩, .bool false]) 3 32 Try.underlying79 hi0 hz0 hz1 hz2 rfl (by decide) _ _ _ hs ho ⟨gx, 0, none⟩ 1 1 (pcells [y]) hx (by rw [pcells_len]; rfl) hnews (pcells_one [y]) (by unfold maxLen; omega) (by omega) hB fun v' w' hown' hgr _ => ?_
    rw [← pcells_append] at hown'
    obtain ⟨A', c', rfl, hr⟩ := PrtIn.of_own hown'
    exact hK _ _ _ hr ⟨hgr.os, hgr.tape, hgr.output, hgr.size, fun k hk hb => hgr.block k hk (by simp [Value.ownBlock]; omega)⟩
end

end Go.Proofs.Ytmkmaeblnnfheaa
/- Tokens, times and sizes are drawn: a number in a small range; the reader alone has turned. -/
namespace Go.Proofs.Ytmkmaeblnnfheaa
open Go.RowKit
variable {B : Nat}

/-- A block that is not the reader's keeps its cells over a pick. -/
theorem far_cell {w w1 : World} {rb b j : Nat} {v : Value} (hg : w.grownBy w1 (some rb)) (h : w.cell? ⟨b, j, none⟩ = some v) (hne : b ≠ rb) : w1.cell? ⟨b, j, none⟩ = some v :=
  hg.cell h (by intro e; injection e with e; exact hne e)

end Go.Proofs.Ytmkmaeblnnfheaa
