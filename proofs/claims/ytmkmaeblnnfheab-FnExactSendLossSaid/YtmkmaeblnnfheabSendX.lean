/- A stream and a part for the exact laws: measured, copied in, compared, marked, and the marks read back. -/
import Derived.Test.YtmkmaeblnnfheabSndD
import Derived.Test.YtmkmaeblnnfheabRngX
namespace Go.Proofs.Ytmkmaeblnnfheab
open Go.RowKit
attribute [local irreducible] Go.wpQuiet

section
variable {w w' : World} {b : Nat} {d : ByteArray} {f : Bool} {l n : Int} {A : Option Addr} {na ca : Nat} {B : Option Addr} {nb cb : Nat} {o : Int}
theorem Own6.newT (w : World) (T : TypeId) : Own6 (w.alloc (.cells #[.string d, .bool f, .int .i64 l, .int .i64 n, .slice A na ca, .slice B nb cb] T)) w.heap.size d f l n A na ca B nb cb := by
  refine ⟨⟨?_, ?_, ?_, ?_, ?_, ?_⟩, fun j => ?_⟩ <;> simp
theorem Own3.newT (w : World) (T : TypeId) : Own3 (w.alloc (.cells #[.int .i64 o, .string d, .bool f] T)) w.heap.size o d f := by
  refine ⟨⟨?_, ?_, ?_⟩, fun j => ?_⟩ <;> simp
theorem Own6.lt' (h : Own6 w b d f l n A na ca B nb cb) : b < w.heap.size := h.1.lt
theorem Own6.touch (h : Own6 w b d f l n A na ca B nb cb) {q s : Nat} (ht : Touch w w' q s) (hq : b < q ∨ s ≤ b) : Own6 w' b d f l n A na ca B nb cb := by
  have e := ht.block b h.1.lt hq
  exact ⟨h.1.of_cells fun j => World.cell?_of_block (w := w) (a := ⟨b, j, none⟩) e, fun j => (World.frozen?_of_block (w := w) (a := ⟨b, j, none⟩) e).trans (h.2 j)⟩
theorem Own3.touch (h : Own3 w b o d f) {q s : Nat} (ht : Touch w w' q s) (hq : b < q ∨ s ≤ b) : Own3 w' b o d f := by
  have e := ht.block b h.lt hq
  exact h.same (fun j => World.cell?_of_block (w := w) (a := ⟨b, j, none⟩) e) fun j => World.frozen?_of_block (w := w) (a := ⟨b, j, none⟩) e
end

/-- Where the two sets of a stream lie. -/
structure InSd (w : World) (Lo Hi : Nat) (A : Option Addr) (ca : Nat) (B : Option Addr) (cb : Nat) (LA LB : List Rg) : Prop where
  a : RngIn w Lo Hi A LA.length ca LA
  b : RngIn w Lo Hi B LB.length cb LB
  apart : Apart A LA.length B LB.length
section
variable {w w' : World} {Lo Hi Lo' Hi' : Nat} {A : Option Addr} {ca : Nat} {B : Option Addr} {cb : Nat} {LA LB : List Rg}
theorem InSd.below (h : InSd w Lo Hi A ca B cb LA LB) (hb : Below w.heap.size w w') : InSd w' Lo Hi A ca B cb LA LB := ⟨h.a.below hb, h.b.below hb, h.apart⟩
theorem InSd.touch (h : InSd w Lo Hi A ca B cb LA LB) (t : Touch w w' Lo' Hi') (hd : Hi ≤ Lo' ∨ Hi' ≤ Lo) : InSd w' Lo Hi A ca B cb LA LB := ⟨h.a.touch t hd, h.b.touch t hd, h.apart⟩
theorem InSd.mono (h : InSd w Lo Hi A ca B cb LA LB) (h1 : Lo' ≤ Lo) (h2 : Hi ≤ Hi') : InSd w Lo' Hi' A ca B cb LA LB := ⟨h.a.mono h1 h2, h.b.mono h1 h2, h.apart⟩
theorem InSd.low (h : InSd w Lo Hi A ca B cb LA LB) {p : Addr} (hp : p.block < Lo) (u : Value) : InSd (w.setCell p u) Lo Hi A ca B cb LA LB := ⟨h.a.setLow hp u, h.b.setLow hp u, h.apart⟩
theorem InSd.alloc (h : InSd w Lo Hi A ca B cb LA LB) (o : Obj) : InSd (w.alloc o) Lo Hi A ca B cb LA LB := ⟨h.a.alloc o, h.b.alloc o, h.apart⟩
theorem InSd.drew (h : InSd w Lo Hi A ca B cb LA LB) : InSd w.drew Lo Hi A ca B cb LA LB := ⟨h.a, h.b, h.apart⟩
end
theorem RngIn.other {w w' : World} {Lo Hi : Nat} {B : Option Addr} {n c : Nat} {L : List Rg} (h : RngIn w Lo Hi B n c L) (hn : 0 < n) {g : Nat} (t : Touch w w' g (g + 1)) (hne : ∀ y, B = some y → y.block ≠ g) : RngIn w' Lo Hi B n c L := by
  obtain ⟨q, e, r1, r2, r⟩ := h.tight hn
  have h1 : q ≠ g := hne _ e
  exact (r.touch t (by omega)).mono r1 (by omega)

theorem Touch.widen {w w' : World} {g Lo Hi : Nat} (h : Touch w w' g (g + 1)) (h1 : Lo ≤ g) (h2 : g < Hi) : Touch w w' Lo Hi := ⟨h.os, h.tape, h.output, h.size, fun k hk hb => h.block k hk (by omega)⟩
set_option maxHeartbeats 1000000 in
theorem szSend_big (d : ByteArray) (f : Bool) (l n : Int) (LA LB : List Rg) (A : Option Addr) (ca : Nat) (B : Option Addr) (cb : Nat) (w : World) (hd : d.size ≤ maxLen) (hA : LA.length ≤ maxLen) (hB : LB.length ≤ maxLen) (h : 1048576 < d.size + LA.length + LB.length) :
    Calls Try.prog 18 #[.agg #[.string d, .bool f, .int .i64 l, .int .i64 n, .slice A LA.length ca, .slice B LB.length cb], .int .i64 1048576] w fun e w' => e = .returned (.int .i64 (-1)) ∧ Below w.heap.size w w' := by
  unfold maxLen at hd hA hB
  have z := Own6.newT (d := d) (f := f) (l := l) (n := n) (A := A) (na := LA.length) (ca := ca) (B := B) (nb := LB.length) (cb := cb) w 37
  obtain ⟨⟨z0, z1, z2, z3, z4, z5⟩, zf⟩ := z
  by_cases h1 : 1048576 < d.size
  · go_enter Try.func18, Try.ntmps18
    go_wp2_with fail
    go_ret
    exact ⟨rfl, by go_grown⟩
  · by_cases h2 : 1048576 - (d.size : Int) < LA.length
    · go_enter Try.func18, Try.ntmps18
      go_wp2_with (go_at_call 58; (with_reducible refine (szR_any _ _ _ _ _ (by omega) ⟨by omega, by omega⟩).mono ?_); rintro e w1 ⟨rfl, rfl⟩; rw [if_pos (by omega)])
      go_ret
      exact ⟨rfl, by go_grown⟩
    · have h3 : 1048576 - (d.size : Int) - LA.length < LB.length := by omega
      go_enter Try.func18, Try.ntmps18
      go_wp2_with (first
        | (go_at_call_of 58 (Value.slice A LA.length ca); (with_reducible refine (szR_any _ _ _ _ _ (by omega) ⟨by omega, by omega⟩).mono ?_); rintro e w1 ⟨rfl, rfl⟩; rw [if_neg (by omega)])
        | (go_at_call_of 58 (Value.slice B LB.length cb); (with_reducible refine (szR_any _ _ _ _ _ (by omega) ⟨by omega, by omega⟩).mono ?_); rintro e w1 ⟨rfl, rfl⟩; rw [if_pos (by omega)]))
      go_ret
      exact ⟨rfl, by go_grown⟩

set_option maxHeartbeats 1000000 in
theorem szSend_ok (d : ByteArray) (f : Bool) (l n : Int) (LA LB : List Rg) (A : Option Addr) (ca : Nat) (B : Option Addr) (cb : Nat) (w : World) (h : d.size + LA.length + LB.length ≤ 1048576) :
    Calls Try.prog 18 #[.agg #[.string d, .bool f, .int .i64 l, .int .i64 n, .slice A LA.length ca, .slice B LB.length cb], .int .i64 1048576] w fun e w' => e = .returned (.int .i64 (1048576 - (d.size : Int) - LA.length - LB.length)) ∧ Below w.heap.size w w' := by
  have z := Own6.newT (d := d) (f := f) (l := l) (n := n) (A := A) (na := LA.length) (ca := ca) (B := B) (nb := LB.length) (cb := cb) w 37
  obtain ⟨⟨z0, z1, z2, z3, z4, z5⟩, zf⟩ := z
  have h2 : ¬ 1048576 - (d.size : Int) < LA.length := by omega
  have h3 : ¬ 1048576 - (d.size : Int) - LA.length < LB.length := by omega
  go_enter Try.func18, Try.ntmps18
  go_wp2_with (first
    | (go_at_call_of 58 (Value.slice A LA.length ca); (with_reducible refine (szR_any _ _ _ _ _ (by omega) ⟨by omega, by omega⟩).mono ?_); rintro e w1 ⟨rfl, rfl⟩; rw [if_neg (by omega)])
    | (go_at_call_of 58 (Value.slice B LB.length cb); (with_reducible refine (szR_any _ _ _ _ _ (by omega) ⟨by omega, by omega⟩).mono ?_); rintro e w1 ⟨rfl, rfl⟩; rw [if_neg (by omega)]))
  go_ret
  exact ⟨rfl, by go_grown⟩

set_option maxRecDepth 100000 in
set_option maxHeartbeats 4000000 in
theorem toSend_any (d : ByteArray) (f : Bool) (l n : Int) (LA LB : List Rg) (A : Option Addr) (ca : Nat) (B : Option Addr) (cb : Nat) (w : World) (hA : RngAt w A LA.length LA) (hB : RngAt w B LB.length LB) (hn : LA.length ≤ 1048576) (hn' : LB.length ≤ 1048576) :
    Calls Try.prog 21 #[.agg #[.string d, .bool f, .int .i64 l, .int .i64 n, .slice A LA.length ca, .slice B LB.length cb]] w fun e w' => (∃ v, e = .returned v ∧ GotSd w ⟨d, f, l, n, LA, LB⟩ v w') ∧ Below w.heap.size w w' := by
  have z := ((Own6.newT (d := d) (f := f) (l := l) (n := n) (A := A) (na := LA.length) (ca := ca) (B := B) (nb := LB.length) (cb := cb) w 37).alloc (.cells #[.string ⟨#[]⟩, .bool false, .int .i64 0, .int .i64 0, .slice none 0 0, .slice none 0 0] 25)).alloc (.cells #[.string ⟨#[]⟩, .bool false, .int .i64 0, .int .i64 0, .slice none 0 0, .slice none 0 0] 25)
  have r := (Own6.new (d := ⟨#[]⟩) (f := false) (l := 0) (n := 0) (A := none) (na := 0) (ca := 0) (B := none) (nb := 0) (cb := 0) (w.alloc (.cells #[.string d, .bool f, .int .i64 l, .int .i64 n, .slice A LA.length ca, .slice B LB.length cb] 37))).alloc (.cells #[.string ⟨#[]⟩, .bool false, .int .i64 0, .int .i64 0, .slice none 0 0, .slice none 0 0] 25)
  have o := Own6.new (d := ⟨#[]⟩) (f := false) (l := 0) (n := 0) (A := none) (na := 0) (ca := 0) (B := none) (nb := 0) (cb := 0) ((w.alloc (.cells #[.string d, .bool f, .int .i64 l, .int .i64 n, .slice A LA.length ca, .slice B LB.length cb] 37)).alloc (.cells #[.string ⟨#[]⟩, .bool false, .int .i64 0, .int .i64 0, .slice none 0 0, .slice none 0 0] 25))
  rw [show (w.alloc (.cells #[.string d, .bool f, .int .i64 l, .int .i64 n, .slice A LA.length ca, .slice B LB.length cb] 37)).heap.size = w.heap.size + 1 from by simp] at r
  rw [show ((w.alloc (.cells #[.string d, .bool f, .int .i64 l, .int .i64 n, .slice A LA.length ca, .slice B LB.length cb] 37)).alloc (.cells #[.string ⟨#[]⟩, .bool false, .int .i64 0, .int .i64 0, .slice none 0 0, .slice none 0 0] 25)).heap.size = w.heap.size + 1 + 1 from by simp] at o
  have hW0 : Below w.heap.size w _ := (((Below.refl _ w).alloc (Nat.le_refl _) (.cells #[.string d, .bool f, .int .i64 l, .int .i64 n, .slice A LA.length ca, .slice B LB.length cb] 37)).alloc (by simp) (.cells #[.string ⟨#[]⟩, .bool false, .int .i64 0, .int .i64 0, .slice none 0 0, .slice none 0 0] 25)).alloc (by simp; omega) (.cells #[.string ⟨#[]⟩, .bool false, .int .i64 0, .int .i64 0, .slice none 0 0, .slice none 0 0] 25)
  have hsz : (((w.alloc (.cells #[.string d, .bool f, .int .i64 l, .int .i64 n, .slice A LA.length ca, .slice B LB.length cb] 37)).alloc (.cells #[.string ⟨#[]⟩, .bool false, .int .i64 0, .int .i64 0, .slice none 0 0, .slice none 0 0] 25)).alloc (.cells #[.string ⟨#[]⟩, .bool false, .int .i64 0, .int .i64 0, .slice none 0 0, .slice none 0 0] 25)).heap.size = w.heap.size + 1 + 1 + 1 := by simp
  have zm := ((Own6.newT (d := d) (f := f) (l := l) (n := n) (A := A) (na := LA.length) (ca := ca) (B := B) (nb := LB.length) (cb := cb) w 37).alloc (.cells #[.string ⟨#[]⟩, .bool false, .int .i64 0, .int .i64 0, .slice none 0 0, .slice none 0 0] 25)).alloc (.cells #[.string d, .bool f, .int .i64 l, .int .i64 n, .slice none 0 0, .slice none 0 0] 25)
  have rm := (Own6.new (d := ⟨#[]⟩) (f := false) (l := 0) (n := 0) (A := none) (na := 0) (ca := 0) (B := none) (nb := 0) (cb := 0) (w.alloc (.cells #[.string d, .bool f, .int .i64 l, .int .i64 n, .slice A LA.length ca, .slice B LB.length cb] 37))).alloc (.cells #[.string d, .bool f, .int .i64 l, .int .i64 n, .slice none 0 0, .slice none 0 0] 25)
  have om := Own6.new (d := d) (f := f) (l := l) (n := n) (A := none) (na := 0) (ca := 0) (B := none) (nb := 0) (cb := 0) ((w.alloc (.cells #[.string d, .bool f, .int .i64 l, .int .i64 n, .slice A LA.length ca, .slice B LB.length cb] 37)).alloc (.cells #[.string ⟨#[]⟩, .bool false, .int .i64 0, .int .i64 0, .slice none 0 0, .slice none 0 0] 25))
  rw [show (w.alloc (.cells #[.string d, .bool f, .int .i64 l, .int .i64 n, .slice A LA.length ca, .slice B LB.length cb] 37)).heap.size = w.heap.size + 1 from by simp] at rm
  rw [show ((w.alloc (.cells #[.string d, .bool f, .int .i64 l, .int .i64 n, .slice A LA.length ca, .slice B LB.length cb] 37)).alloc (.cells #[.string ⟨#[]⟩, .bool false, .int .i64 0, .int .i64 0, .slice none 0 0, .slice none 0 0] 25)).heap.size = w.heap.size + 1 + 1 from by simp] at om
  have hWm : Below w.heap.size w _ := (((Below.refl _ w).alloc (Nat.le_refl _) (.cells #[.string d, .bool f, .int .i64 l, .int .i64 n, .slice A LA.length ca, .slice B LB.length cb] 37)).alloc (by simp) (.cells #[.string ⟨#[]⟩, .bool false, .int .i64 0, .int .i64 0, .slice none 0 0, .slice none 0 0] 25)).alloc (by simp; omega) (.cells #[.string d, .bool f, .int .i64 l, .int .i64 n, .slice none 0 0, .slice none 0 0] 25)
  have hsm : (((w.alloc (.cells #[.string d, .bool f, .int .i64 l, .int .i64 n, .slice A LA.length ca, .slice B LB.length cb] 37)).alloc (.cells #[.string ⟨#[]⟩, .bool false, .int .i64 0, .int .i64 0, .slice none 0 0, .slice none 0 0] 25)).alloc (.cells #[.string d, .bool f, .int .i64 l, .int .i64 n, .slice none 0 0, .slice none 0 0] 25)).heap.size = w.heap.size + 1 + 1 + 1 := by simp
  have ZM := hid_of zm
  have RM := hid_of rm
  have OM := hid_of om
  clear zm rm om
  have HZ := hid_of z
  have HR := hid_of r
  have HO := hid_of o
  obtain ⟨⟨z0, z1, z2, z3, z4, z5⟩, zf⟩ := z
  obtain ⟨⟨o0, o1, o2, o3, o4, o5⟩, of⟩ := o
  obtain ⟨⟨r0, r1, r2, r3, r4, r5⟩, rf⟩ := r
  go_enter Try.func21, Try.ntmps21
  go_wp2_with (first
    | (go_at_call_of 61 (Value.slice A LA.length ca); (with_reducible refine (toR_any A LA.length ca LA _ (hA.below hWm) hn).mono ?_); rintro e w1 ⟨A1, c1, rfl, hI1, hb1⟩; have O1 := hid_of (OM.out.under hb1 (by omega)); have Z1 := hid_of (ZM.out.under hb1 (by omega)); have R1 := hid_of (RM.out.under hb1 (by omega)); have hI1 : RngIn w1 (w.heap.size + 1 + 1 + 1) w1.heap.size A1 LA.length c1 LA := hI1.mono (by omega) (Nat.le_refl _); have hs1 : w.heap.size + 1 + 1 + 1 ≤ w1.heap.size := (by have := hb1.size; omega); have hw1 : Below w.heap.size w w1 := hWm.trans (hb1.mono (by omega)); clear z0 z1 z2 z3 z4 z5 zf o0 o1 o2 o3 o4 o5 of r0 r1 r2 r3 r4 r5 rf hb1; obtain ⟨⟨z0, z1, z2, z3, z4, z5⟩, zf⟩ := Z1.out; obtain ⟨⟨o0, o1, o2, o3, o4, o5⟩, of⟩ := O1.out; obtain ⟨⟨r0, r1, r2, r3, r4, r5⟩, rf⟩ := R1.out)
    | (go_at_call_of 61 (Value.slice B LB.length cb); (with_reducible refine (toR_any B LB.length cb LB _ (hB.below (hw1.setCell (p := ⟨w.heap.size + 1 + 1, 4, none⟩) (by (try dsimp only); omega) (.slice A1 LA.length c1))) hn').mono ?_); rintro e w2 ⟨B1, c2, rfl, hI2, hb2⟩; have O2 := hid_of ((O1.out.set4 A1 LA.length c1).under hb2 (by simp [World.setCell]; omega)); have R2 := hid_of ((R1.out.other (p := ⟨w.heap.size + 1 + 1, 4, none⟩) (by (try dsimp only); omega) (.slice A1 LA.length c1)).under hb2 (by simp [World.setCell]; omega)); have hI2 : RngIn w2 w1.heap.size w2.heap.size B1 LB.length c2 LB := hI2.mono (by simp [World.setCell]) (Nat.le_refl _); have hs2 : w1.heap.size ≤ w2.heap.size := (by have := hb2.size; simpa [World.setCell] using this); have hw2 : Below w.heap.size w w2 := (hw1.setCell (p := ⟨w.heap.size + 1 + 1, 4, none⟩) (by (try dsimp only); omega) (.slice A1 LA.length c1)).trans (hb2.mono (by simp [World.setCell]; omega)); have hI1' : RngIn w2 (w.heap.size + 1 + 1 + 1) w1.heap.size A1 LA.length c1 LA := ((hI1.setLow (p := ⟨w.heap.size + 1 + 1, 4, none⟩) (by (try dsimp only); omega) (.slice A1 LA.length c1)).below hb2); clear z0 z1 z2 z3 z4 z5 zf o0 o1 o2 o3 o4 o5 of r0 r1 r2 r3 r4 r5 rf hb2; obtain ⟨⟨o0, o1, o2, o3, o4, o5⟩, of⟩ := O2.out; obtain ⟨⟨r0, r1, r2, r3, r4, r5⟩, rf⟩ := R2.out))
  try simp only [Exit.inBlock, Exit.then]
  refine bodyPost_ret (results_snd rfl rfl ((R2.out.other (by (try dsimp only); omega) _).setAll d f l n A1 LA.length c1 B1 LB.length c2).1) rfl ?_
  refine ⟨⟨_, rfl, A1, c1, B1, c2, rfl, ?_, ?_, ?_⟩, ?_⟩
  · refine RngIn.mono (B := w.heap.size + 1 + 1 + 1) (S := w1.heap.size) ?_ (by omega) (by simp [World.setCell]; omega)
    repeat refine RngIn.setLow ?_ (by (try dsimp only); omega) _
    exact hI1'
  · refine RngIn.mono (B := w1.heap.size) (S := w2.heap.size) ?_ (by omega) (by simp [World.setCell])
    repeat refine RngIn.setLow ?_ (by (try dsimp only); omega) _
    exact hI2
  · exact apart_of hI1' hI2 (.inl (Nat.le_refl _))
  · repeat refine Below.setCell ?_ (by (try dsimp only); omega) _
    exact hw2

set_option maxHeartbeats 1000000 in
theorem eqSend_any (d : ByteArray) (f : Bool) (l n : Int) (LA LB : List Rg) (A : Option Addr) (ca : Nat) (B : Option Addr) (cb : Nat) (A' : Option Addr) (ca' : Nat) (B' : Option Addr) (cb' : Nat) (w : World) (hA : RngAt w A LA.length LA) (hB : RngAt w B LB.length LB) (hA' : RngAt w A' LA.length LA) (hB' : RngAt w B' LB.length LB) (hn : LA.length ≤ 2000000) (hn' : LB.length ≤ 2000000) :
    Calls Try.prog 24 #[.agg #[.string d, .bool f, .int .i64 l, .int .i64 n, .slice A LA.length ca, .slice B LB.length cb], .agg #[.string d, .bool f, .int .i64 l, .int .i64 n, .slice A' LA.length ca', .slice B' LB.length cb']] w fun e w' => e = .returned (.bool true) ∧ Below w.heap.size w w' := by
  have z := (Own6.new (d := d) (f := f) (l := l) (n := n) (A := A) (na := LA.length) (ca := ca) (B := B) (nb := LB.length) (cb := cb) w).alloc (.cells #[.string d, .bool f, .int .i64 l, .int .i64 n, .slice A' LA.length ca', .slice B' LB.length cb'] 25)
  have y := Own6.new (d := d) (f := f) (l := l) (n := n) (A := A') (na := LA.length) (ca := ca') (B := B') (nb := LB.length) (cb := cb') (w.alloc (.cells #[.string d, .bool f, .int .i64 l, .int .i64 n, .slice A LA.length ca, .slice B LB.length cb] 25))
  rw [show (w.alloc (.cells #[.string d, .bool f, .int .i64 l, .int .i64 n, .slice A LA.length ca, .slice B LB.length cb] 25)).heap.size = w.heap.size + 1 from by simp] at y
  have hW0 : Below w.heap.size w _ := ((Below.refl _ w).alloc (Nat.le_refl _) (.cells #[.string d, .bool f, .int .i64 l, .int .i64 n, .slice A LA.length ca, .slice B LB.length cb] 25)).alloc (by simp) (.cells #[.string d, .bool f, .int .i64 l, .int .i64 n, .slice A' LA.length ca', .slice B' LB.length cb'] 25)
  have hs0 : ((w.alloc (.cells #[.string d, .bool f, .int .i64 l, .int .i64 n, .slice A LA.length ca, .slice B LB.length cb] 25)).alloc (.cells #[.string d, .bool f, .int .i64 l, .int .i64 n, .slice A' LA.length ca', .slice B' LB.length cb'] 25)).heap.size = w.heap.size + 1 + 1 := by simp
  have HZ := hid_of z
  have HY := hid_of y
  obtain ⟨⟨z0, z1, z2, z3, z4, z5⟩, zf⟩ := z
  obtain ⟨⟨y0, y1, y2, y3, y4, y5⟩, yf⟩ := y
  go_enter Try.func24, Try.ntmps24
  go_wp2_with (first
    | (go_at_call_of 64 (Value.slice A LA.length ca); (with_reducible refine (eqR_any A A' LA.length ca ca' LA _ (hA.below hW0) (hA'.below hW0) hn).mono ?_); rintro e w1 ⟨rfl, hb1⟩; obtain ⟨⟨z0, z1, z2, z3, z4, z5⟩, zf⟩ := HZ.out.under hb1 (by omega); obtain ⟨⟨y0, y1, y2, y3, y4, y5⟩, yf⟩ := HY.out.under hb1 (by omega); have hw1 := hW0.trans (hb1.mono hW0.size))
    | (go_at_call_of 64 (Value.slice B LB.length cb); (with_reducible refine (eqR_any B B' LB.length cb cb' LB _ (hB.below hw1) (hB'.below hw1) hn').mono ?_); rintro e w2 ⟨rfl, hb2⟩; have hw2 := hw1.trans (hb2.mono hw1.size)))
  go_ret
  exact ⟨rfl, hw2⟩

set_option maxHeartbeats 1000000 in
theorem markSend_any {Lo Hi : Nat} (d : ByteArray) (f : Bool) (l n : Int) (LA LB : List Rg) (A : Option Addr) (ca : Nat) (B : Option Addr) (cb : Nat) (w : World) (k0 : Int) (h : InSd w Lo Hi A ca B cb LA LB) (hk0 : 0 ≤ k0) (hk1 : k0 ≤ 10) (hn : LA.length ≤ 2000000) (hn' : LB.length ≤ 2000000) (hHi : Hi ≤ w.heap.size) :
    Calls Try.prog 25 #[.agg #[.string d, .bool f, .int .i64 l, .int .i64 n, .slice A LA.length ca, .slice B LB.length cb], .int .i64 k0] w fun e w' => e = .returned (.int .i64 (k0 + 2 * (LA.length : Int) + 2 * (LB.length : Int))) ∧ RngAt w' A LA.length (marks k0 LA.length) ∧ RngAt w' B LB.length (marks (k0 + 2 * (LA.length : Int)) LB.length) ∧ Touch w w' Lo Hi := by
  have z := Own6.new (d := d) (f := f) (l := l) (n := n) (A := A) (na := LA.length) (ca := ca) (B := B) (nb := LB.length) (cb := cb) w
  have HZ := hid_of z
  have h0 := h.alloc (.cells #[.string d, .bool f, .int .i64 l, .int .i64 n, .slice A LA.length ca, .slice B LB.length cb] 25)
  have t0 : Touch w (w.alloc (.cells #[.string d, .bool f, .int .i64 l, .int .i64 n, .slice A LA.length ca, .slice B LB.length cb] 25)) Lo Hi := (Touch.refl w Lo Hi).alloc _
  obtain ⟨⟨z0, z1, z2, z3, z4, z5⟩, zf⟩ := z
  have ha0 := h0.a
  have hb0 := h0.b
  have hap := h0.apart
  clear h0 h
  generalize hna : LA.length = na at *
  generalize hnb : LB.length = nb at *
  rcases Nat.eq_zero_or_pos na with e | ha
  · subst e
    rcases Nat.eq_zero_or_pos nb with e | hb
    · subst e
      go_enter Try.func25, Try.ntmps25
      go_wp2_with (first
        | (go_at_call_of 65 (Value.slice A 0 ca); (with_reducible refine (markR_nil A ca _ k0).mono ?_); rintro e w1 ⟨rfl, rfl⟩)
        | (go_at_call_of 65 (Value.slice B 0 cb); (with_reducible refine (markR_nil B cb _ k0).mono ?_); rintro e w1 ⟨rfl, rfl⟩))
      go_ret
      exact ⟨ret_int (by omega), RngAt.nil _ _, RngAt.nil _ _, t0⟩
    · go_enter Try.func25, Try.ntmps25
      go_wp2_with (first
        | (go_at_call_of 65 (Value.slice A 0 ca); (with_reducible refine (markR_nil A ca _ k0).mono ?_); rintro e w1 ⟨rfl, rfl⟩)
        | (go_at_call_of 65 (Value.slice B nb cb); (with_reducible refine (markR_in B nb cb LB _ k0 hb0 hk0 (by omega) hn' hb).mono ?_); rintro e w2 ⟨rfl, g, eg, g0, g1, hJ, ht⟩))
      go_ret
      exact ⟨ret_int (by omega), RngAt.nil _ _, by rw [show k0 + 2 * ((0 : Nat) : Int) = k0 from by omega]; exact hJ.reads, t0.trans (ht.widen g0 g1)⟩
  · rcases Nat.eq_zero_or_pos nb with e | hb
    · subst e
      go_enter Try.func25, Try.ntmps25
      go_wp2_with (first
        | (go_at_call_of 65 (Value.slice A na ca); (with_reducible refine (markR_in A na ca LA _ k0 ha0 hk0 (by omega) hn ha).mono ?_); rintro e w1 ⟨rfl, g, eg, g0, g1, hI, ht⟩; obtain ⟨⟨z0, z1, z2, z3, z4, z5⟩, zf⟩ := HZ.out.touch ht (by omega))
        | (go_at_call_of 65 (Value.slice B 0 cb); (with_reducible refine (markR_nil B cb _ (k0 + 2 * (na : Int))).mono ?_); rintro e w1 ⟨rfl, rfl⟩))
      go_ret
      exact ⟨ret_int (by omega), hI.reads, RngAt.nil _ _, t0.trans (ht.widen g0 g1)⟩
    · go_enter Try.func25, Try.ntmps25
      go_wp2_with (first
        | (go_at_call_of 65 (Value.slice A na ca); (with_reducible refine (markR_in A na ca LA _ k0 ha0 hk0 (by omega) hn ha).mono ?_); rintro e w1 ⟨rfl, g, eg, g0, g1, hI, ht⟩; have hJ := hb0.other hb ht (fun y ey => fun e => hap ha hb ⟨g, 0, none⟩ y eg ey e.symm); obtain ⟨⟨z0, z1, z2, z3, z4, z5⟩, zf⟩ := HZ.out.touch ht (by omega))
        | (go_at_call_of 65 (Value.slice B nb cb); (with_reducible refine (markR_in B nb cb LB _ (k0 + 2 * (na : Int)) hJ (by omega) (by omega) hn' hb).mono ?_); rintro e w2 ⟨rfl, g', eg', g0', g1', hJ', ht'⟩))
      go_ret
      exact ⟨ret_int (by omega), (hI.other ha ht' (fun y ey => fun e => by rw [eg] at ey; cases ey; exact hap ha hb ⟨g, 0, none⟩ ⟨g', 0, none⟩ eg eg' e)).reads, hJ'.reads, (t0.trans (ht.widen g0 g1)).trans (ht'.widen g0' g1')⟩

set_option maxHeartbeats 1000000 in
theorem heldSend_any (d : ByteArray) (f : Bool) (l n : Int) (A : Option Addr) (ca : Nat) (B : Option Addr) (cb : Nat) (w : World) (k0 : Int) (na nb : Nat) (h : RngAt w A na (marks k0 na)) (h' : RngAt w B nb (marks (k0 + 2 * (na : Int)) nb)) (hk0 : 0 ≤ k0) (hk1 : k0 ≤ 10) (hn : na ≤ 2000000) (hn' : nb ≤ 2000000) :
    Calls Try.prog 26 #[.agg #[.string d, .bool f, .int .i64 l, .int .i64 n, .slice A na ca, .slice B nb cb], .int .i64 k0] w fun e w' => e = .returned (.int .i64 (k0 + 2 * (na : Int) + 2 * (nb : Int))) ∧ Below w.heap.size w w' := by
  have z := Own6.new (d := d) (f := f) (l := l) (n := n) (A := A) (na := na) (ca := ca) (B := B) (nb := nb) (cb := cb) w
  obtain ⟨⟨z0, z1, z2, z3, z4, z5⟩, zf⟩ := z
  go_enter Try.func26, Try.ntmps26
  go_wp2_with (first
    | (go_at_call_of 66 (Value.slice A na ca); (with_reducible refine (heldR_any A na ca _ k0 (h.alloc _) hk0 (by omega) hn).mono ?_); rintro e w1 ⟨rfl, rfl⟩)
    | (go_at_call_of 66 (Value.slice B nb cb); (with_reducible refine (heldR_any B nb cb _ (k0 + 2 * (na : Int)) (h'.alloc _) (by omega) (by omega) hn').mono ?_); rintro e w1 ⟨rfl, rfl⟩))
  go_ret
  exact ⟨rfl, (Below.refl _ _).alloc (Nat.le_refl _) _⟩

end Go.Proofs.Ytmkmaeblnnfheab
