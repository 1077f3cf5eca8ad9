/- Merged: SndC, SndD, RngX, SendX, Same, RngE, Seq. -/
import Derived.Test.YtmkmaeblnnfheaaMg1
import Derived.Test.YtmkmaeblnnfheaaRngD
import Derived.Deep.RegionHeld3
import Derived.StillTailTactics
import Derived.StillTail
/- A stream is copied; the last position of a part; both sides. -/
namespace Go.Proofs.Ytmkmaeblnnfheaa
open Go.RowKit
attribute [local irreducible] Go.wpQuiet

theorem RngIn.setLow {w : World} {B S : Nat} {A : Option Addr} {n c : Nat} {L : List Rg} (h : RngIn w B S A n c L) {p : Addr} (hp : p.block < B) (u : Value) : RngIn (w.setCell p u) B S A n c L :=
  h.touch (((Touch.refl w p.block (p.block + 1)).setCell (Nat.le_refl _) (Nat.lt_succ_self _) u)) (.inr hp)
theorem RngIn.none_cap {w : World} {B S : Nat} {A : Option Addr} {n c : Nat} {L : List Rg} (h : RngIn w B S A n c L) (e : A = none) : c = 0 := by
  rcases h.2.2 with h0 | ⟨_, g, e', _⟩
  · exact h0.2
  · rw [e] at e'; cases e'
theorem Touch.of_below2 {w w' : World} {B : Nat} (h : Below B w w') : Touch w w' B w'.heap.size := ⟨h.os, h.tape, h.output, h.size, fun k hk hb => by
  rcases hb with e | e
  · exact h.block k e
  · exact absurd (Nat.lt_of_lt_of_le hk h.size) (by omega)⟩
/-- Two slices that can hold something lie in different blocks (numbers: capacities). -/
def Apart (A : Option Addr) (na : Nat) (B : Option Addr) (nb : Nat) : Prop := 0 < na → 0 < nb → ∀ x y, A = some x → B = some y → x.block ≠ y.block
theorem apart_of {w : World} {B S B' S' : Nat} {A A' : Option Addr} {n c n' c' : Nat} {L L' : List Rg} (h : RngIn w B S A n c L) (h' : RngIn w B' S' A' n' c' L') (hd : S ≤ B' ∨ S' ≤ B) : Apart A c A' c' := by
  intro h0 h1 x y ex ey
  rcases h.2.2 with ⟨_, e0⟩ | ⟨_, g, e, g1, g2, _⟩
  · omega
  rcases h'.2.2 with ⟨_, e0⟩ | ⟨_, g', e', g1', g2', _⟩
  · omega
  rw [ex] at e
  rw [ey] at e'
  cases e
  cases e'
  show g ≠ g'
  omega
/-- A stream in new memory. -/
def GotSd (w : World) (s : Sd) (v : Value) (w' : World) : Prop :=
  ∃ A ca B cb, v = .agg #[.string s.d, .bool s.f, .int .i64 s.l, .int .i64 s.n, .slice A s.A.length ca, .slice B s.L.length cb] ∧ RngIn w' w.heap.size w'.heap.size A s.A.length ca s.A ∧ RngIn w' w.heap.size w'.heap.size B s.L.length cb s.L ∧ Apart A ca B cb

theorem last_i (o : Int) (d : ByteArray) (f : Bool) (w : World) (ho : -1000000 ≤ o ∧ o ≤ 1000000) (hd : d.size ≤ 1000000) :
    Calls Try.prog 49 #[.agg #[.int .i64 o, .string d, .bool f]] w fun e w' => e = .returned (.int .i64 (Pt.last ⟨o, d, f⟩)) ∧ ∃ x, w' = w.alloc x := by
  cases f
  all_goals
    go_enter Try.func49, Try.ntmps49
    go_wp2_with fail
    go_ret
    exact ⟨ret_int (by simp [Pt.last]), _, rfl⟩
theorem last_s (o : Int) (d : ByteArray) (f : Bool) (w : World) (ho : -1000000 ≤ o ∧ o ≤ 1000000) (hd : d.size ≤ 1000000) :
    Calls Try.prog 84 #[.agg #[.int .i64 o, .string d, .bool f]] w fun e w' => e = .returned (.int .i64 (Pt.last ⟨o, d, f⟩)) ∧ ∃ x, w' = w.alloc x := by
  cases f
  all_goals
    go_enter Try.func84, Try.ntmps84
    go_wp2_with fail
    go_ret
    exact ⟨ret_int (by simp [Pt.last]), _, rfl⟩

theorem own_lit (W : World) {q : Nat} (hq : W.heap.size = q) : (W.alloc (.cells #[] 40)).ownsRow q 40 2 (.slice (some ⟨q, 0, none⟩) 0 0) 0 [] := hq ▸ World.ownsRow_lit W #[] 0 (Nat.le_refl _) (Nat.zero_le _) rfl
/-- A struct of this kind that may be written. -/
def Own6 (w : World) (b : Nat) (d : ByteArray) (f : Bool) (l n : Int) (A : Option Addr) (na ca : Nat) (B : Option Addr) (nb cb : Nat) : Prop := Box w b d f l n A na ca B nb cb ∧ ∀ j, w.frozen? ⟨b, j, none⟩ = false
section
variable {w w' : World} {b : Nat} {d : ByteArray} {f : Bool} {l n : Int} {A : Option Addr} {na ca : Nat} {B : Option Addr} {nb cb : Nat}
theorem Own6.under (h : Own6 w b d f l n A na ca B nb cb) {q : Nat} (hb : Below q w w') (hq : b < q) : Own6 w' b d f l n A na ca B nb cb :=
  ⟨h.1.of_cells fun j => hb.cell (p := ⟨b, j, none⟩) hq, fun j => (hb.frozen (p := ⟨b, j, none⟩) hq).trans (h.2 j)⟩
theorem Own6.alloc (h : Own6 w b d f l n A na ca B nb cb) (o : Obj) : Own6 (w.alloc o) b d f l n A na ca B nb cb := h.under ((Below.refl w.heap.size w).alloc (Nat.le_refl _) o) h.1.lt
theorem Own6.new (w : World) : Own6 (w.alloc (.cells #[.string d, .bool f, .int .i64 l, .int .i64 n, .slice A na ca, .slice B nb cb] 25)) w.heap.size d f l n A na ca B nb cb := by
  refine ⟨Box.new w, fun j => ?_⟩
  simp
theorem cell_set (w : World) (b j : Nat) (v u : Value) (h : w.cell? ⟨b, j, none⟩ = some u) (k : Nat) : (w.setCell ⟨b, j, none⟩ v).cell? ⟨b, k, none⟩ = if k = j then some v else w.cell? ⟨b, k, none⟩ := by
  split
  · rename_i e
    subst e
    exact World.cell?_setCell_same w ⟨b, k, none⟩ v h
  · rename_i e
    exact World.cell?_setCell_other w ⟨b, j, none⟩ ⟨b, k, none⟩ v (by intro x; injection x with x1 x2; exact e x2.symm)
theorem Own6.set0 (h : Own6 w b d f l n A na ca B nb cb) (d' : ByteArray) : Own6 (w.setCell ⟨b, 0, none⟩ (.string d')) b d' f l n A na ca B nb cb := by
  obtain ⟨⟨h0, h1, h2, h3, h4, h5⟩, hf⟩ := h
  exact ⟨⟨cell_set w b 0 _ _ h0 0, (cell_set w b 0 _ _ h0 1).trans h1, (cell_set w b 0 _ _ h0 2).trans h2, (cell_set w b 0 _ _ h0 3).trans h3, (cell_set w b 0 _ _ h0 4).trans h4, (cell_set w b 0 _ _ h0 5).trans h5⟩, fun j => (World.frozen?_setCell _ _ _ _).trans (hf j)⟩
theorem Own6.set1 (h : Own6 w b d f l n A na ca B nb cb) (f' : Bool) : Own6 (w.setCell ⟨b, 1, none⟩ (.bool f')) b d f' l n A na ca B nb cb := by
  obtain ⟨⟨h0, h1, h2, h3, h4, h5⟩, hf⟩ := h
  exact ⟨⟨(cell_set w b 1 _ _ h1 0).trans h0, cell_set w b 1 _ _ h1 1, (cell_set w b 1 _ _ h1 2).trans h2, (cell_set w b 1 _ _ h1 3).trans h3, (cell_set w b 1 _ _ h1 4).trans h4, (cell_set w b 1 _ _ h1 5).trans h5⟩, fun j => (World.frozen?_setCell _ _ _ _).trans (hf j)⟩
theorem Own6.set2 (h : Own6 w b d f l n A na ca B nb cb) (l' : Int) : Own6 (w.setCell ⟨b, 2, none⟩ (.int .i64 l')) b d f l' n A na ca B nb cb := by
  obtain ⟨⟨h0, h1, h2, h3, h4, h5⟩, hf⟩ := h
  exact ⟨⟨(cell_set w b 2 _ _ h2 0).trans h0, (cell_set w b 2 _ _ h2 1).trans h1, cell_set w b 2 _ _ h2 2, (cell_set w b 2 _ _ h2 3).trans h3, (cell_set w b 2 _ _ h2 4).trans h4, (cell_set w b 2 _ _ h2 5).trans h5⟩, fun j => (World.frozen?_setCell _ _ _ _).trans (hf j)⟩
theorem Own6.set3 (h : Own6 w b d f l n A na ca B nb cb) (n' : Int) : Own6 (w.setCell ⟨b, 3, none⟩ (.int .i64 n')) b d f l n' A na ca B nb cb := by
  obtain ⟨⟨h0, h1, h2, h3, h4, h5⟩, hf⟩ := h
  exact ⟨⟨(cell_set w b 3 _ _ h3 0).trans h0, (cell_set w b 3 _ _ h3 1).trans h1, (cell_set w b 3 _ _ h3 2).trans h2, cell_set w b 3 _ _ h3 3, (cell_set w b 3 _ _ h3 4).trans h4, (cell_set w b 3 _ _ h3 5).trans h5⟩, fun j => (World.frozen?_setCell _ _ _ _).trans (hf j)⟩
theorem Own6.set4 (h : Own6 w b d f l n A na ca B nb cb) (A' : Option Addr) (na' ca' : Nat) : Own6 (w.setCell ⟨b, 4, none⟩ (.slice A' na' ca')) b d f l n A' na' ca' B nb cb := by
  obtain ⟨⟨h0, h1, h2, h3, h4, h5⟩, hf⟩ := h
  exact ⟨⟨(cell_set w b 4 _ _ h4 0).trans h0, (cell_set w b 4 _ _ h4 1).trans h1, (cell_set w b 4 _ _ h4 2).trans h2, (cell_set w b 4 _ _ h4 3).trans h3, cell_set w b 4 _ _ h4 4, (cell_set w b 4 _ _ h4 5).trans h5⟩, fun j => (World.frozen?_setCell _ _ _ _).trans (hf j)⟩
theorem Own6.set5 (h : Own6 w b d f l n A na ca B nb cb) (A' : Option Addr) (na' ca' : Nat) : Own6 (w.setCell ⟨b, 5, none⟩ (.slice A' na' ca')) b d f l n A na ca A' na' ca' := by
  obtain ⟨⟨h0, h1, h2, h3, h4, h5⟩, hf⟩ := h
  exact ⟨⟨(cell_set w b 5 _ _ h5 0).trans h0, (cell_set w b 5 _ _ h5 1).trans h1, (cell_set w b 5 _ _ h5 2).trans h2, (cell_set w b 5 _ _ h5 3).trans h3, (cell_set w b 5 _ _ h5 4).trans h4, cell_set w b 5 _ _ h5 5⟩, fun j => (World.frozen?_setCell _ _ _ _).trans (hf j)⟩
theorem Own6.other (h : Own6 w b d f l n A na ca B nb cb) {p : Addr} (hp : p.block ≠ b) (u : Value) : Own6 (w.setCell p u) b d f l n A na ca B nb cb := by
  have e : (w.setCell p u).heap[b]? = w.heap[b]? := Below.heap_setCell w p u b (fun e => hp e.symm)
  exact ⟨h.1.of_cells fun j => World.cell?_of_block (w := w) (a := ⟨b, j, none⟩) e, fun j => (World.frozen?_of_block (w := w) (a := ⟨b, j, none⟩) e).trans (h.2 j)⟩
theorem Own6.setAll (h : Own6 w b d f l n A na ca B nb cb) (d' : ByteArray) (f' : Bool) (l' n' : Int) (A' : Option Addr) (na' ca' : Nat) (B' : Option Addr) (nb' cb' : Nat) :
    Own6 ((((((w.setCell ⟨b, 0, none⟩ (.string d')).setCell ⟨b, 1, none⟩ (.bool f')).setCell ⟨b, 2, none⟩ (.int .i64 l')).setCell ⟨b, 3, none⟩ (.int .i64 n')).setCell ⟨b, 4, none⟩ (.slice A' na' ca')).setCell ⟨b, 5, none⟩ (.slice B' nb' cb')) b d' f' l' n' A' na' ca' B' nb' cb' :=
  (((((h.set0 d').set1 f').set2 l').set3 n').set4 A' na' ca').set5 B' nb' cb'
theorem results_snd {fn : Func} {t : Tmp} (h : fn.results = #[.cell t 25]) {tmps : Array Value} (hp : tmps.getD t undef = .pointer (some ⟨b, 0, none⟩)) (hx : Box w b d f l n A na ca B nb cb) :
    (results fn tmps).run Try.prog w = .ok (.agg #[.string d, .bool f, .int .i64 l, .int .i64 n, .slice A na ca, .slice B nb cb]) w := by
  obtain ⟨h0, h1, h2, h3, h4, h5⟩ := hx
  have hp' : tmps[t]?.getD undef = .pointer (some ⟨b, 0, none⟩) := by simpa using hp
  simp [results, h, hp', go_sem, h0, h1, h2, h3, h4, h5]
end
set_option maxRecDepth 100000 in
set_option maxHeartbeats 4000000 in
theorem copy_s (d : ByteArray) (f : Bool) (l n : Int) (LA LB : List Rg) (A : Option Addr) (ca : Nat) (B : Option Addr) (cb : Nat) (w : World) (hA : RngAt w A LA.length LA) (hB : RngAt w B LB.length LB) (eA : A = none → ca = 0) (eB : B = none → cb = 0) (hn : LA.length ≤ 2000000) (hn' : LB.length ≤ 2000000) :
    Calls Try.prog 62 #[.agg #[.string d, .bool f, .int .i64 l, .int .i64 n, .slice A LA.length ca, .slice B LB.length cb]] w fun e w' => (∃ v, e = .returned v ∧ GotSd w ⟨d, f, l, n, LA, LB⟩ v w') ∧ Below w.heap.size w w' := by
  generalize hNA : LA.length = na at *
  generalize hNB : LB.length = nb at *
  have HNA := hid_of hNA
  have HNB := hid_of hNB
  clear hNA hNB
  have z := ((Own6.new (d := d) (f := f) (l := l) (n := n) (A := A) (na := na) (ca := ca) (B := B) (nb := nb) (cb := cb) w).alloc (.cells #[.string ByteArray.empty, .bool false, .int .i64 0, .int .i64 0, .slice none 0 0, .slice none 0 0] 25)).alloc (.cells #[] 40)
  have r := (Own6.new (d := ByteArray.empty) (f := false) (l := 0) (n := 0) (A := none) (na := 0) (ca := 0) (B := none) (nb := 0) (cb := 0) (w.alloc (.cells #[.string d, .bool f, .int .i64 l, .int .i64 n, .slice A na ca, .slice B nb cb] 25))).alloc (.cells #[] 40)
  rw [show (w.alloc (.cells #[.string d, .bool f, .int .i64 l, .int .i64 n, .slice A na ca, .slice B nb cb] 25)).heap.size = w.heap.size + 1 from by simp] at r
  go_enter Try.func62, Try.ntmps62
  go_wp2_with (first
    | (at_builtin; refine wpList_copy_rng _ rfl _ _ rfl (base := w.heap.size + 1 + 1) (g := w.heap.size + 1 + 1) (A := A) (c := ca) (L := LA) rfl (own_lit _ (by simp)) (by simp) rfl (((hA.alloc _).alloc _).alloc _) eA hn ?_; intro A1 c1 w1 hI1 hg1; have hb1 := below_grown_new ((Below.refl (w.heap.size + 1 + 1) _).alloc (by simp) (.cells #[] 40)) (by simp) hg1 (Nat.le_refl _); have z1 := z.under (q := w.heap.size + 1 + 1) (below_grown_new (Below.refl _ _) (by simp) hg1 (Nat.le_refl _)) (by omega); have r1 := r.under (q := w.heap.size + 1 + 1) (below_grown_new (Below.refl _ _) (by simp) hg1 (Nat.le_refl _)) (by omega); have hw1 : Below w.heap.size w w1 := ((Below.refl _ w).alloc (Nat.le_refl _) _).trans ((((Below.refl _ _).alloc (Nat.le_refl _) _).trans (hb1.mono (by simp))).mono (by simp)); have Z1 := hid_of z1; have R1 := hid_of r1; obtain ⟨⟨z10, z11, z12, z13, z14, z15⟩, z1f⟩ := z1; obtain ⟨⟨r10, r11, r12, r13, r14, r15⟩, r1f⟩ := r1; have hs1 := hw1.size; have hs0 : w.heap.size + 1 + 1 + 1 ≤ w1.heap.size := (by have := hg1.size; simpa using this); have lt1 : w.heap.size < w1.heap.size := (by omega); have lt2 : w.heap.size + 1 < w1.heap.size := (by omega); clear hg1 hb1 z r)
    | (at_builtin; refine wpList_copy_rng _ rfl _ _ rfl (base := w1.heap.size) (g := w1.heap.size) (A := B) (c := cb) (L := LB) rfl (own_lit _ (by simp [World.setCell])) (by simp [World.setCell]) rfl (hB.below ((hw1.setCell (by simp) _).alloc (by simp [World.setCell]; omega) _)) eB hn' ?_; intro B1 c2 w2 hI2 hg2; have hb2 := below_grown_new (Below.refl w1.heap.size _) (by simp [World.setCell]) hg2 (Nat.le_refl _); have Z2 := hid_of (((Z1.out.set4 A1 na c1).alloc (.cells #[] 40)).under hb2 (by omega)); have R2 := hid_of (((R1.out.other (p := ⟨w.heap.size, 4, none⟩) (by simp) (.slice A1 na c1)).alloc (.cells #[] 40)).under hb2 (by omega)); obtain ⟨⟨z20, z21, z22, z23, z24, z25⟩, z2f⟩ := Z2.out; obtain ⟨⟨r20, r21, r22, r23, r24, r25⟩, r2f⟩ := R2.out; have hw2 : Below w.heap.size w w2 := ((hw1.setCell (p := ⟨w.heap.size, 4, none⟩) (Nat.le_refl _) (.slice A1 na c1)).alloc (by simp [World.setCell]; omega) (.cells #[] 40)).trans (hb2.mono hs1); have hI1' : RngIn w2 (w.heap.size + 1 + 1) w1.heap.size A1 na c1 LA := (((hI1.setLow (p := ⟨w.heap.size, 4, none⟩) (by simp; omega) (.slice A1 na c1)).alloc (.cells #[] 40)).touch (Touch.of_below2 hb2) (.inl (Nat.le_refl _))); have hs2 : w1.heap.size + 1 ≤ w2.heap.size := (by have := hb2.size; simpa [World.setCell] using this); have lt3 : w.heap.size < w2.heap.size := (by omega); have lt4 : w.heap.size + 1 < w2.heap.size := (by omega); clear hg2 hb2 hI1))
  try simp only [Exit.inBlock, Exit.then]
  refine bodyPost_ret (results_snd rfl rfl ((R2.out.other (by simp) _).setAll d f l n A1 na c1 B1 nb c2).1) rfl ?_
  refine ⟨⟨_, rfl, A1, c1, B1, c2, ?_, ?_, ?_, ?_⟩, ?_⟩
  · show _ = Value.agg #[.string d, .bool f, .int .i64 l, .int .i64 n, .slice A1 LA.length c1, .slice B1 LB.length c2]
    rw [HNA.out, HNB.out]
  · show RngIn _ w.heap.size _ A1 LA.length c1 LA
    rw [HNA.out]
    refine RngIn.mono (B := w.heap.size + 1 + 1) (S := w1.heap.size) ?_ (by omega) (by simp [World.setCell]; omega)
    repeat refine RngIn.setLow ?_ (by dsimp only; omega) _
    exact hI1'
  · show RngIn _ w.heap.size _ B1 LB.length c2 LB
    rw [HNB.out]
    refine RngIn.mono (B := w1.heap.size) (S := w2.heap.size) ?_ (by omega) (by simp [World.setCell])
    repeat refine RngIn.setLow ?_ (by dsimp only; omega) _
    exact hI2
  · show Apart A1 c1 B1 c2
    exact apart_of hI1' hI2 (.inl (Nat.le_refl _))
  · repeat refine Below.setCell ?_ (by dsimp only; omega) _
    exact hw2

set_option maxRecDepth 100000 in
set_option maxHeartbeats 4000000 in
theorem copy_i (d : ByteArray) (f : Bool) (l n : Int) (LA LB : List Rg) (A : Option Addr) (ca : Nat) (B : Option Addr) (cb : Nat) (w : World) (hA : RngAt w A LA.length LA) (hB : RngAt w B LB.length LB) (eA : A = none → ca = 0) (eB : B = none → cb = 0) (hn : LA.length ≤ 2000000) (hn' : LB.length ≤ 2000000) :
    Calls Try.prog 47 #[.agg #[.string d, .bool f, .int .i64 l, .int .i64 n, .slice A LA.length ca, .slice B LB.length cb]] w fun e w' => (∃ v, e = .returned v ∧ GotSd w ⟨d, f, l, n, LA, LB⟩ v w') ∧ Below w.heap.size w w' := by
  have z := ((Own6.new (d := d) (f := f) (l := l) (n := n) (A := A) (na := LA.length) (ca := ca) (B := B) (nb := LB.length) (cb := cb) w).alloc (.cells #[.string ByteArray.empty, .bool false, .int .i64 0, .int .i64 0, .slice none 0 0, .slice none 0 0] 25))
  have r := (Own6.new (d := ByteArray.empty) (f := false) (l := 0) (n := 0) (A := none) (na := 0) (ca := 0) (B := none) (nb := 0) (cb := 0) (w.alloc (.cells #[.string d, .bool f, .int .i64 l, .int .i64 n, .slice A LA.length ca, .slice B LB.length cb] 25)))
  rw [show (w.alloc (.cells #[.string d, .bool f, .int .i64 l, .int .i64 n, .slice A LA.length ca, .slice B LB.length cb] 25)).heap.size = w.heap.size + 1 from by simp] at r
  have hA0 := (hA.alloc (.cells #[.string d, .bool f, .int .i64 l, .int .i64 n, .slice A LA.length ca, .slice B LB.length cb] 25)).alloc (.cells #[.string ByteArray.empty, .bool false, .int .i64 0, .int .i64 0, .slice none 0 0, .slice none 0 0] 25)
  have hB0 := (hB.alloc (.cells #[.string d, .bool f, .int .i64 l, .int .i64 n, .slice A LA.length ca, .slice B LB.length cb] 25)).alloc (.cells #[.string ByteArray.empty, .bool false, .int .i64 0, .int .i64 0, .slice none 0 0, .slice none 0 0] 25)
  have hW0 : Below w.heap.size w _ := ((Below.refl _ w).alloc (Nat.le_refl _) (.cells #[.string d, .bool f, .int .i64 l, .int .i64 n, .slice A LA.length ca, .slice B LB.length cb] 25)).alloc (by simp) (.cells #[.string ByteArray.empty, .bool false, .int .i64 0, .int .i64 0, .slice none 0 0, .slice none 0 0] 25)
  have hsz : ((w.alloc (.cells #[.string d, .bool f, .int .i64 l, .int .i64 n, .slice A LA.length ca, .slice B LB.length cb] 25)).alloc (.cells #[.string ByteArray.empty, .bool false, .int .i64 0, .int .i64 0, .slice none 0 0, .slice none 0 0] 25)).heap.size = w.heap.size + 1 + 1 := by simp
  go_enter Try.func47, Try.ntmps47
  go_wp2_with fail
  generalize hW : World.alloc (World.alloc w _) _ = W
  have hz : Own6 W w.heap.size d f l n A LA.length ca B LB.length cb := by rw [← hW]; exact z
  have hr : Own6 W (w.heap.size + 1) ByteArray.empty false 0 0 none 0 0 none 0 0 := by rw [← hW]; exact r
  have hA1 : RngAt W A LA.length LA := by rw [← hW]; exact hA0
  have hB1 : RngAt W B LB.length LB := by rw [← hW]; exact hB0
  have hw0 : Below w.heap.size w W := by rw [← hW]; exact hW0
  have hsW : W.heap.size = w.heap.size + 1 + 1 := by rw [← hW]; exact hsz
  clear hW z r hA0 hB0 hW0 hsz
  have HZ := hid_of hz
  have HR := hid_of hr
  obtain ⟨⟨z0, z1, z2, z3, z4, z5⟩, zf⟩ := hz
  obtain ⟨⟨r0, r1, r2, r3, r4, r5⟩, rf⟩ := hr
  go_region_with (first
    | (go_at_call_of 82 (Value.slice A LA.length ca); (with_reducible refine (clone_any A ca LA _ (by first | exact hA1 | exact hA1.drew) eA hn).mono ?_); rintro e w1 ⟨A1, c1, rfl, hI1, hb1⟩; have hb1 : Below W.heap.size W w1 := ⟨hb1.os, hb1.tape, hb1.output, hb1.size, hb1.block⟩; have hI1 : RngIn w1 W.heap.size w1.heap.size A1 LA.length c1 LA := hI1; have HZ1 := hid_of (HZ.out.under hb1 (by omega)); have HR1 := hid_of (HR.out.under hb1 (by omega)); obtain ⟨⟨z0, z1, z2, z3, z4, z5⟩, zf⟩ := HZ1.out; obtain ⟨⟨r0, r1, r2, r3, r4, r5⟩, rf⟩ := HR1.out; have hs1 := hb1.size; have hB1 := hB1.below hb1)
    | (go_at_call_of 82 (Value.slice B LB.length cb); (with_reducible refine (clone_any B cb LB _ hB1 eB hn').mono ?_); rintro e w2 ⟨B1, c2, rfl, hI2, hb2⟩; have HZ2 := hid_of (HZ1.out.under hb2 (by omega)); have HR2 := hid_of (HR1.out.under hb2 (by omega)); obtain ⟨⟨z0, z1, z2, z3, z4, z5⟩, zf⟩ := HZ2.out; obtain ⟨⟨r0, r1, r2, r3, r4, r5⟩, rf⟩ := HR2.out; have hI1 := hI1.below hb2; have hs2 := hb2.size; have hw2 := hw0.trans ((hb1.trans (hb2.mono hs1)).mono hw0.size)))
  all_goals go_wp2_with fail
  all_goals
    try simp only [Exit.inBlock, Exit.then]
    refine bodyPost_ret (results_snd rfl rfl (((HR2.out.other (by simp) _).other (by simp) _).setAll d f l n A1 LA.length c1 B1 LB.length c2).1) rfl ?_
    refine ⟨⟨_, rfl, A1, c1, B1, c2, rfl, ?_, ?_, ?_⟩, ?_⟩
    · refine RngIn.mono (B := W.heap.size) (S := w1.heap.size) ?_ (by omega) (by simp [World.setCell]; omega)
      repeat refine RngIn.setLow ?_ (by dsimp only; omega) _
      exact hI1
    · refine RngIn.mono (B := w1.heap.size) (S := w2.heap.size) ?_ (by omega) (by simp [World.setCell])
      repeat refine RngIn.setLow ?_ (by dsimp only; omega) _
      exact hI2
    · exact apart_of hI1 hI2 (.inl (Nat.le_refl _))
    · repeat refine Below.setCell ?_ (by dsimp only; omega) _
      exact hw2

end Go.Proofs.Ytmkmaeblnnfheaa
/- A part in memory; results of several values; the reference cuts a part out of a stream. -/
namespace Go.Proofs.Ytmkmaeblnnfheaa
open Go.RowKit
attribute [local irreducible] Go.wpQuiet

def Own3 (w : World) (b : Nat) (o : Int) (d : ByteArray) (f : Bool) : Prop := (w.cell? ⟨b, 0, none⟩ = some (.int .i64 o) ∧ w.cell? ⟨b, 1, none⟩ = some (.string d) ∧ w.cell? ⟨b, 2, none⟩ = some (.bool f)) ∧ ∀ j, w.frozen? ⟨b, j, none⟩ = false
section
variable {w w' : World} {b : Nat} {o : Int} {d : ByteArray} {f : Bool}
theorem Own3.lt (h : Own3 w b o d f) : b < w.heap.size := World.block_lt_of_cell? _ _ h.1.1
theorem Own3.same (h : Own3 w b o d f) (hc : ∀ j, w'.cell? ⟨b, j, none⟩ = w.cell? ⟨b, j, none⟩) (hf : ∀ j, w'.frozen? ⟨b, j, none⟩ = w.frozen? ⟨b, j, none⟩) : Own3 w' b o d f :=
  ⟨⟨(hc 0).trans h.1.1, (hc 1).trans h.1.2.1, (hc 2).trans h.1.2.2⟩, fun j => (hf j).trans (h.2 j)⟩
theorem Own3.under (h : Own3 w b o d f) {q : Nat} (hb : Below q w w') (hq : b < q) : Own3 w' b o d f := h.same (fun j => hb.cell (p := ⟨b, j, none⟩) hq) fun j => hb.frozen (p := ⟨b, j, none⟩) hq
theorem Own3.alloc (h : Own3 w b o d f) (x : Obj) : Own3 (w.alloc x) b o d f := h.under ((Below.refl w.heap.size w).alloc (Nat.le_refl _) x) h.lt
theorem Own3.new (w : World) (o : Int) (d : ByteArray) (f : Bool) : Own3 (w.alloc (.cells #[.int .i64 o, .string d, .bool f] 27)) w.heap.size o d f := by
  refine ⟨⟨?_, ?_, ?_⟩, fun j => ?_⟩ <;> simp
theorem Own3.other (h : Own3 w b o d f) {p : Addr} (hp : p.block ≠ b) (u : Value) : Own3 (w.setCell p u) b o d f := by
  have e : (w.setCell p u).heap[b]? = w.heap[b]? := Below.heap_setCell w p u b (fun e => hp e.symm)
  exact h.same (fun j => World.cell?_of_block (w := w) (a := ⟨b, j, none⟩) e) fun j => World.frozen?_of_block (w := w) (a := ⟨b, j, none⟩) e
theorem Own3.setAll (h : Own3 w b o d f) (o' : Int) (d' : ByteArray) (f' : Bool) : Own3 (((w.setCell ⟨b, 0, none⟩ (.int .i64 o')).setCell ⟨b, 1, none⟩ (.string d')).setCell ⟨b, 2, none⟩ (.bool f')) b o' d' f' := by
  obtain ⟨⟨h0, h1, h2⟩, hf⟩ := h
  have a0 := cell_set w b 0 (.int .i64 o') _ h0
  have a1 := cell_set (w.setCell ⟨b, 0, none⟩ (.int .i64 o')) b 1 (.string d') _ ((a0 1).trans h1)
  have a2 := cell_set ((w.setCell ⟨b, 0, none⟩ (.int .i64 o')).setCell ⟨b, 1, none⟩ (.string d')) b 2 (.bool f') _ ((a1 2).trans ((a0 2).trans h2))
  exact ⟨⟨(a2 0).trans ((a1 0).trans (a0 0)), (a2 1).trans (a1 1), a2 2⟩, fun j => by rw [World.frozen?_setCell, World.frozen?_setCell, World.frozen?_setCell]; exact hf j⟩
theorem results_prt {fn : Func} {t : Tmp} (h : fn.results = #[.cell t 27]) {tmps : Array Value} (hp : tmps.getD t undef = .pointer (some ⟨b, 0, none⟩)) (hx : Own3 w b o d f) :
    (results fn tmps).run Try.prog w = .ok (.agg #[.int .i64 o, .string d, .bool f]) w := by
  obtain ⟨⟨h0, h1, h2⟩, _⟩ := hx
  have hp' : tmps[t]?.getD undef = .pointer (some ⟨b, 0, none⟩) := by simpa using hp
  simp [results, h, hp', go_sem, h0, h1, h2]
end
section
variable {w : World} {b : Nat} {d : ByteArray} {f : Bool} {l n : Int} {A : Option Addr} {na ca : Nat} {B : Option Addr} {nb cb : Nat}
theorem results_sb {fn : Func} {t u : Tmp} (h : fn.results = #[.cell t 25, .tmp u]) {tmps : Array Value} (hp : tmps.getD t undef = .pointer (some ⟨b, 0, none⟩)) {v : Value} (hu : tmps.getD u undef = v) (hx : Own6 w b d f l n A na ca B nb cb) :
    (results fn tmps).run Try.prog w = .ok (.tuple #[.agg #[.string d, .bool f, .int .i64 l, .int .i64 n, .slice A na ca, .slice B nb cb], v]) w := by
  obtain ⟨⟨h0, h1, h2, h3, h4, h5⟩, _⟩ := hx
  have hp' : tmps[t]?.getD undef = .pointer (some ⟨b, 0, none⟩) := by simpa using hp
  have hu' : tmps[u]?.getD undef = v := by simpa using hu
  simp [results, h, hp', hu', go_sem, h0, h1, h2, h3, h4, h5]
theorem results_spb {fn : Func} {t s u : Tmp} {p : Nat} {o : Int} {dp : ByteArray} {fp : Bool} (h : fn.results = #[.cell t 25, .cell s 27, .tmp u]) {tmps : Array Value} (hp : tmps.getD t undef = .pointer (some ⟨b, 0, none⟩)) (hs : tmps.getD s undef = .pointer (some ⟨p, 0, none⟩)) {v : Value} (hu : tmps.getD u undef = v) (hx : Own6 w b d f l n A na ca B nb cb) (hy : Own3 w p o dp fp) :
    (results fn tmps).run Try.prog w = .ok (.tuple #[.agg #[.string d, .bool f, .int .i64 l, .int .i64 n, .slice A na ca, .slice B nb cb], .agg #[.int .i64 o, .string dp, .bool fp], v]) w := by
  obtain ⟨⟨h0, h1, h2, h3, h4, h5⟩, _⟩ := hx
  obtain ⟨⟨g0, g1, g2⟩, _⟩ := hy
  have hp' : tmps[t]?.getD undef = .pointer (some ⟨b, 0, none⟩) := by simpa using hp
  have hs' : tmps[s]?.getD undef = .pointer (some ⟨p, 0, none⟩) := by simpa using hs
  have hu' : tmps[u]?.getD undef = v := by simpa using hu
  simp [results, h, hp', hs', hu', go_sem, h0, h1, h2, h3, h4, h5, g0, g1, g2]
end

set_option maxRecDepth 100000 in
set_option maxHeartbeats 4000000 in
theorem part_s (d : ByteArray) (f : Bool) (l n : Int) (LA LB : List Rg) (A : Option Addr) (na ca : Nat) (B : Option Addr) (nb cb : Nat) (lo hi : Int) (w : World) (h0 : 0 ≤ lo) (h1 : lo ≤ d.size) (h2 : -1000000 ≤ hi ∧ hi ≤ 1000000) {p : Pt} (hp : part ⟨d, f, l, n, LA, LB⟩ lo hi = p) :
    Calls Try.prog 96 #[.agg #[.string d, .bool f, .int .i64 l, .int .i64 n, .slice A na ca, .slice B nb cb], .int .i64 lo, .int .i64 hi] w fun e w' => e = .returned (.agg #[.int .i64 p.o, .string p.d, .bool p.f]) ∧ Below w.heap.size w w' := by
  have HP := hid_of hp
  clear hp
  obtain ⟨ev, hev⟩ : ∃ v, (if (d.size : Int) < hi + 1 then (d.size : Int) else hi + 1) = v := ⟨_, rfl⟩
  have HEV : Hid (min (hi + 1) (d.size : Int) = ev) := by unfold Hid; rw [← hev]; split <;> omega
  obtain ⟨xv, hxv⟩ : ∃ v, (if lo < ev then ev else lo) = v := ⟨_, rfl⟩
  have HXV : Hid (max lo ev = xv) := by unfold Hid; rw [← hxv]; split <;> omega
  have hx0 : lo ≤ xv := by have := HXV.out; omega
  have hx1 : xv ≤ (d.size : Int) := by have := HXV.out; have := HEV.out; omega
  have hx2 : (0 : Int) ≤ xv := by omega
  have z := Own6.new (d := d) (f := f) (l := l) (n := n) (A := A) (na := na) (ca := ca) (B := B) (nb := nb) (cb := cb) w
  have z0 := (z.alloc (.cells #[.int .i64 0, .string ByteArray.empty, .bool false] 27)).1.1
  have r := Own3.new (w.alloc (.cells #[.string d, .bool f, .int .i64 l, .int .i64 n, .slice A na ca, .slice B nb cb] 25)) 0 ByteArray.empty false
  rw [show (w.alloc (.cells #[.string d, .bool f, .int .i64 l, .int .i64 n, .slice A na ca, .slice B nb cb] 25)).heap.size = w.heap.size + 1 from by simp] at r
  have R := hid_of r
  clear z r
  go_enter Try.func96, Try.ntmps96
  go_wp2_with fail
  go_region_held3 (fun w' => w'.cell? ⟨w.heap.size, 0, none⟩ = some (.string d)) (go_keep) (fail)
  all_goals go_wp2_with fail
  all_goals
    go_returns
    refine ⟨?_, by go_grown⟩
    rw [← HP.out]
    unfold part
    dsimp only
    rw [HEV.out, HXV.out]
    rfl

end Go.Proofs.Ytmkmaeblnnfheaa
/- Slices of ranges for the exact laws: measured, copied in, compared, marked, and the marks read back. -/
namespace Go.Proofs.Ytmkmaeblnnfheaa
open Go.RowKit

theorem rcells_take_succ {L : List Rg} {k : Nat} (h : k < L.length) : rcells (L.take k) ++ [.int .i64 (rth L k).lo, .int .i64 (rth L k).hi] = rcells (L.take (k + 1)) := by
  rw [List.take_succ_eq_append_getElem h, rcells_append, ← rth_eq h]
  rfl
theorem rcells_set : ∀ {L : List Rg} {k : Nat} (c : Rg), k < L.length → (((rcells L).set (k * 2) (.int .i64 c.lo)).set (k * 2 + 1) (.int .i64 c.hi)) = rcells (L.set k c)
  | [], k, _, h => by simp at h
  | a :: L, 0, c, _ => rfl
  | a :: L, k + 1, c, h => by
    have e : (a :: L).set (k + 1) c = a :: L.set k c := rfl
    rw [e, rcells_cons, rcells_cons, show (k + 1) * 2 = k * 2 + 1 + 1 from by omega, ← rcells_set c (by simpa using h)]
    rfl
section
variable {w : World} {B S : Nat} {n c g k : Nat} {A : Option Addr} {L : List Rg} {T : TypeId} {X R : List Value}
theorem RngIn.store (h : RngIn w B S (some ⟨g, 0, none⟩) n c L) (hk : k < n) (x : Rg) :
    RngIn ((w.setCell ⟨g, k * 2, none⟩ (.int .i64 x.lo)).setCell ⟨g, k * 2 + 1, none⟩ (.int .i64 x.hi)) B S (some ⟨g, 0, none⟩) n c (L.set k x) := by
  refine ⟨by rw [List.length_set]; exact h.1, ?_⟩
  rw [← rcells_set x (by rw [h.1]; exact hk)]
  exact (h.2.stored (by omega) _ _).stored (by omega) _ _
theorem RowIn.fill2 (h : RowIn T 2 w B S (some ⟨g, 0, none⟩) n c (X ++ R)) (hX : X.length = k * 2) (hR : R.length = (n - k) * 2) (hk : k < n) (u0 u1 : Value) :
    ∃ R', R'.length = (n - (k + 1)) * 2 ∧ RowIn T 2 ((w.setCell ⟨g, k * 2, none⟩ u0).setCell ⟨g, k * 2 + 1, none⟩ u1) B S (some ⟨g, 0, none⟩) n c ((X ++ [u0, u1]) ++ R') := by
  obtain ⟨a, b, R', rfl⟩ : ∃ a b R', R = a :: b :: R' := by
    match R, hR with
    | a :: b :: R', _ => exact ⟨a, b, R', rfl⟩
    | [], h => simp at h; omega
    | [_], h => simp at h; omega
  refine ⟨R', by simp at hR; omega, ?_⟩
  have e := (h.stored (by omega) (k * 2) u0).stored (by omega) (k * 2 + 1) u1
  have e2 : ((X ++ a :: b :: R').set (k * 2) u0).set (k * 2 + 1) u1 = (X ++ [u0, u1]) ++ R' := by
    rw [List.set_append_right _ _ (by omega), show k * 2 - X.length = 0 from by omega, List.set_cons_zero]
    rw [List.set_append_right _ _ (by omega), show k * 2 + 1 - X.length = 0 + 1 from by omega, List.set_cons_succ, List.set_cons_zero]
    simp
  rw [e2] at e
  exact e
end

theorem szR_any (A : Option Addr) (n c : Nat) (x : Int) (w : World) (hn : n ≤ 9223372036854775807) (hx : 0 ≤ x ∧ x ≤ 1048576) :
    Calls Try.prog 69 #[.slice A n c, .int .i64 x] w fun e w' => e = .returned (.int .i64 (if x < n then -1 else x - (n : Int))) ∧ w = w' := by
  obtain ⟨hx0, hx1⟩ := hx
  go_enter Try.func69, Try.ntmps69
  go_wp2
  all_goals
    go_returns
    refine ⟨ret_int ?_, rfl⟩
    first | rfl | (split <;> simp_all <;> omega) | (simp_all <;> omega)

theorem toRange_any (x y : Int) (w : World) :
    Calls Try.prog 97 #[.agg #[.int .i64 x, .int .i64 y]] w fun e w' => e = .returned (.agg #[.int .i64 x, .int .i64 y]) ∧ Below w.heap.size w w' := by
  go_enter Try.func97, Try.ntmps97
  go_wp2
  go_returns
  exact ⟨rfl, by go_grown⟩

theorem eqRange_any (x y : Int) (w : World) :
    Calls Try.prog 98 #[.agg #[.int .i64 x, .int .i64 y], .agg #[.int .i64 x, .int .i64 y]] w fun e w' => e = .returned (.bool true) ∧ Below w.heap.size w w' := by
  go_enter Try.func98, Try.ntmps98
  go_wp2
  go_returns
  exact ⟨rfl, by go_grown⟩

set_option maxHeartbeats 1000000 in
theorem toR_any (A : Option Addr) (n c : Nat) (L : List Rg) (w : World) (h : RngAt w A n L) (hn : n ≤ 1048576) :
    Calls Try.prog 71 #[.slice A n c] w (GotRng w L) := by
  obtain ⟨i0, hi0, hz0, hz1, hz2⟩ := info_parts info_rng
  go_enter Try.func71, Try.ntmps71
  go_wp2_with ((at_make; refine wpList_make_full _ rfl _ _ 23 rfl w.heap.size 40 i0 (.agg #[.int .i64 0, .int .i64 0]) 2 Try.underlying23 hi0 hz0 hz1 .i64 .i64 _ _ n rfl rfl rfl rfl (by rw [hz2]; omega) (by unfold maxLen; omega) (Nat.le_refl _) ?_; intro w0 hown0 hgrow0))
  have hr0 := RowIn.of_own' hown0
  have hb0 := below_of_none hgrow0
  have hl := h.1
  go_loopw [4] (fun i wr => ∃ k R, i = .int .i64 (k : Nat) ∧ k ≤ n ∧ R.length = (n - k) * 2 ∧ RowIn 40 2 wr w.heap.size w0.heap.size (some ⟨w.heap.size, 0, none⟩) n n (rcells (L.take k) ++ R) ∧ Below w.heap.size w wr ∧ w0.heap.size ≤ wr.heap.size)
    (fun i _ => n - (intOf i).toNat)
  case atStart =>
    exact ⟨0, _, rfl, Nat.zero_le _, by have := hr0.1; omega, by simpa [rcells] using hr0, hb0, Nat.le_refl _⟩
  case round =>
    obtain ⟨k, R, rfl, hk, hR, hrow, hb, hsz⟩ := hrel
    by_cases hlt : k < n
    · obtain ⟨b, off, rfl, hbl, hc⟩ := (h.below (w' := wr) hb).2 (by omega)
      obtain ⟨c0, c1⟩ := hc k hlt
      obtain ⟨v0, q0⟩ := hrow.some_ (j := k * 2) (by omega) (by omega)
      obtain ⟨v1, q1⟩ := hrow.some_ (j := k * 2 + 1) (by omega) (by omega)
      obtain ⟨g', e', _, _, hgl, _, hf⟩ := hrow.blk (by omega)
      cases e'
      clear hc
      go_wp2_with fail
      refine (toRange_any _ _ _).mono ?_
      rintro e w1 ⟨rfl, hb1⟩
      have q0' := (hb1.cell (p := ⟨w.heap.size, k * 2, none⟩) hgl).trans q0
      have q1' := (hb1.cell (p := ⟨w.heap.size, k * 2 + 1, none⟩) hgl).trans q1
      have f0' := (hb1.frozen (p := ⟨w.heap.size, k * 2, none⟩) hgl).trans (hf _)
      have f1' := (hb1.frozen (p := ⟨w.heap.size, k * 2 + 1, none⟩) hgl).trans (hf _)
      clear q0 q1 c0 c1 hf
      obtain ⟨R', hR', hrow'⟩ := (hrow.below hb1).fill2 (by rw [rcells_len, List.length_take]; omega) hR hlt (.int .i64 (rth L k).lo) (.int .i64 (rth L k).hi)
      rw [rcells_take_succ (by omega)] at hrow'
      have hb' : Below w.heap.size w w1 := hb.trans (hb1.mono hb.size)
      go_wp2_with fail
      go_roundw
      case rel => exact ⟨k + 1, R', by go_num, by omega, hR', hrow', (hb'.setCell (Nat.le_refl _) _).setCell (Nat.le_refl _) _, by have := hb1.size; simp; omega⟩
      case measure => simp [intOf]; omega
    · have hkn : k = n := by omega
      subst hkn
      clear hlt
      obtain rfl : R = [] := List.eq_nil_of_length_eq_zero (by simpa using hR)
      rw [List.take_of_length_le (by omega), List.append_nil] at hrow
      go_wp2_with fail
      go_ret
      subst hl
      exact ⟨_, _, rfl, ⟨rfl, hrow.mono (Nat.le_refl _) hsz⟩, hb⟩

set_option maxRecDepth 100000 in
theorem eqR_any (A A' : Option Addr) (n c c' : Nat) (L : List Rg) (w : World) (h : RngAt w A n L) (h' : RngAt w A' n L) (hn : n ≤ 2000000) :
    Calls Try.prog 72 #[.slice A n c, .slice A' n c'] w fun e w' => e = .returned (.bool true) ∧ Below w.heap.size w w' := by
  go_enter Try.func72, Try.ntmps72
  go_wp2_with fail
  go_loopw [5] (fun i wr => ∃ k, i = .int .i64 (k : Nat) ∧ k ≤ n ∧ Below w.heap.size w wr) (fun i _ => n - (intOf i).toNat)
  case atStart => exact ⟨0, rfl, Nat.zero_le _, Below.refl _ _⟩
  case round =>
    obtain ⟨k, rfl, hk, hb⟩ := hrel
    by_cases hlt : k < n
    · obtain ⟨g, off, rfl, _, hc⟩ := (h.below hb).2 (by omega)
      obtain ⟨g', off', rfl, _, hc'⟩ := (h'.below hb).2 (by omega)
      obtain ⟨c0, c1⟩ := hc k hlt
      obtain ⟨d0, d1⟩ := hc' k hlt
      clear hc hc'
      go_wp2_with fail
      go_still_tail 8, (by kernel_rfl)
      go_wp2_with fail
      refine (eqRange_any _ _ _).mono ?_
      rintro e w1 ⟨rfl, hb1⟩
      go_wp2_with fail
      go_roundw
      case rel => exact ⟨k + 1, by go_num, by omega, hb.drew.trans (hb1.mono hb.size)⟩
      case measure => simp [intOf]; omega
    · have hkn : k = n := by omega
      subst hkn
      clear hlt
      go_wp2_with fail
      go_ret
      exact ⟨rfl, hb⟩

def markAt (k : Int) (j : Nat) : Rg := ⟨k + 2 * (j : Int), k + 2 * (j : Int) + 1⟩
def marks (k : Int) (n : Nat) : List Rg := (List.range n).map (markAt k)
theorem len_marks (k : Int) (n : Nat) : (marks k n).length = n := by unfold marks; simp
theorem rth_marks {k : Int} {n j : Nat} (h : j < n) : rth (marks k n) j = markAt k j := by
  rw [rth_eq (by rw [len_marks]; exact h)]
  unfold marks
  simp
theorem marks_succ (k : Int) (n : Nat) : marks k (n + 1) = marks k n ++ [markAt k n] := by
  unfold marks
  rw [List.range_succ, List.map_append]
  rfl
theorem marks_step {k : Int} {j : Nat} {L : List Rg} (h : j < L.length) : (marks k j ++ L.drop j).set j (markAt k j) = marks k (j + 1) ++ L.drop (j + 1) := by
  rw [List.set_append_right _ _ (by rw [len_marks]; exact Nat.le_refl _), len_marks, Nat.sub_self, marks_succ, List.drop_eq_getElem_cons h, List.set_cons_zero, List.append_assoc]
  rfl

/-- The slice is marked: it alone has turned. -/
def MarkedR (w : World) (B S : Nat) (A : Option Addr) (n c : Nat) (k : Int) (e : Ending) (w' : World) : Prop :=
  e = .returned (.int .i64 (k + 2 * (n : Int))) ∧ RngIn w' B S A n c (marks k n) ∧ Touch w w' B S

set_option maxHeartbeats 1000000 in
theorem markR_any {B S : Nat} (A : Option Addr) (n c : Nat) (L : List Rg) (w : World) (k0 : Int) (h : RngIn w B S A n c L) (hk0 : 0 ≤ k0) (hk1 : k0 ≤ 100000000) (hn : n ≤ 2000000) :
    Calls Try.prog 73 #[.slice A n c, .int .i64 k0] w (MarkedR w B S A n c k0) := by
  have hl := h.1
  go_enter Try.func73, Try.ntmps73
  go_wp2_with fail
  go_loopw [1, 5] (fun s i wr => ∃ j : Nat, i = .int .i64 (j : Nat) ∧ s = .int .i64 (k0 + 2 * (j : Int)) ∧ j ≤ n ∧ RngIn wr B S A n c (marks k0 j ++ L.drop j) ∧ Touch w wr B S) (fun _ i _ => n - (intOf i).toNat)
  case atStart => exact ⟨0, rfl, by go_num, Nat.zero_le _, by simpa [marks] using h, Touch.refl _ _ _⟩
  case round =>
    obtain ⟨j, rfl, rfl, hj, hI, hT⟩ := hrel
    by_cases hlt : j < n
    · obtain ⟨g, rfl, hB, hS, hgl, hf, hc⟩ := hI.at_ (by omega)
      obtain ⟨c0, c1⟩ := hc j hlt
      have f0 := hf (j * 2)
      have f1 := hf (j * 2 + 1)
      have hI' := hI.store hlt (markAt k0 j)
      rw [marks_step (by omega)] at hI'
      have hT' := (hT.setCell (p := ⟨g, j * 2, none⟩) hB hS (.int .i64 (markAt k0 j).lo)).setCell (p := ⟨g, j * 2 + 1, none⟩) hB hS (.int .i64 (markAt k0 j).hi)
      clear hc hf
      go_wp2_with fail
      go_roundw
      case rel => exact ⟨j + 1, by go_num, by go_num, by omega, hI', hT'⟩
      case measure => simp [intOf]; omega
    · have hkn : j = n := by omega
      subst hkn
      clear hlt
      rw [List.drop_of_length_le (by omega), List.append_nil] at hI
      go_wp2_with fail
      go_ret
      exact ⟨rfl, hI, hT⟩

set_option maxHeartbeats 1000000 in
theorem heldR_any (A : Option Addr) (n c : Nat) (w : World) (k0 : Int) (h : RngAt w A n (marks k0 n)) (hk0 : 0 ≤ k0) (hk1 : k0 ≤ 100000000) (hn : n ≤ 2000000) :
    Calls Try.prog 74 #[.slice A n c, .int .i64 k0] w fun e w' => e = .returned (.int .i64 (k0 + 2 * (n : Int))) ∧ w = w' := by
  go_enter Try.func74, Try.ntmps74
  go_wp2_with fail
  go_loop [1, 5] (fun s i => ∃ j : Nat, i = .int .i64 (j : Nat) ∧ s = .int .i64 (k0 + 2 * (j : Int)) ∧ j ≤ n) (fun _ i => n - (intOf i).toNat)
  case atStart => exact ⟨0, rfl, by go_num, Nat.zero_le _⟩
  case round =>
    obtain ⟨j, rfl, rfl, hj⟩ := hrel
    by_cases hlt : j < n
    · obtain ⟨g, off, rfl, hgl, hc⟩ := h.2 (by omega)
      obtain ⟨c0, c1⟩ := hc j hlt
      rw [rth_marks hlt] at c0 c1
      unfold markAt at c0 c1
      dsimp only at c0 c1
      clear hc
      go_wp2_with fail
      go_round
      case rel => exact ⟨j + 1, by go_num, by go_num, by omega⟩
      case measure => simp [intOf]; omega
    · have hkn : j = n := by omega
      subst hkn
      clear hlt
      go_wp2_with fail
      go_ret
      exact ⟨rfl, rfl⟩

/-- A slice in new memory is marked, and nothing else has turned. -/
def MarkedIn (w : World) (Lo Hi : Nat) (A : Option Addr) (n c : Nat) (k : Int) (e : Ending) (w' : World) : Prop :=
  e = .returned (.int .i64 (k + 2 * (n : Int))) ∧ ∃ g, A = some ⟨g, 0, none⟩ ∧ Lo ≤ g ∧ g < Hi ∧ RngIn w' g (g + 1) A n c (marks k n) ∧ Touch w w' g (g + 1)
theorem RngIn.tight {w : World} {Lo Hi : Nat} {A : Option Addr} {n c : Nat} {L : List Rg} (h : RngIn w Lo Hi A n c L) (hn : 0 < n) : ∃ g, A = some ⟨g, 0, none⟩ ∧ Lo ≤ g ∧ g < Hi ∧ RngIn w g (g + 1) A n c L := by
  rcases h.2.2 with ⟨h0, _⟩ | ⟨ho, g, rfl, r1, r2, r3⟩
  · omega
  · refine ⟨g, rfl, r1, r2, h.1, h.2.1, .inr ⟨⟨ho.1, ?_⟩, g, rfl, Nat.le_refl _, Nat.lt_succ_self _, r3⟩⟩
    rcases ho.2 with e | ⟨g', c', cur, e, q1, q⟩
    · exact .inl e
    · cases e
      exact .inr ⟨g, c, cur, rfl, Nat.le_refl _, q⟩
theorem markR_in {Lo Hi : Nat} (A : Option Addr) (n c : Nat) (L : List Rg) (w : World) (k0 : Int) (h : RngIn w Lo Hi A n c L) (hk0 : 0 ≤ k0) (hk1 : k0 ≤ 100000000) (hn : n ≤ 2000000) (hp : 0 < n) :
    Calls Try.prog 73 #[.slice A n c, .int .i64 k0] w (MarkedIn w Lo Hi A n c k0) := by
  obtain ⟨g, e, h1, h2, h3⟩ := h.tight hp
  exact (markR_any A n c L w k0 h3 hk0 hk1 hn).mono fun _ _ ⟨x, y, z⟩ => ⟨x, g, e, h1, h2, y, z⟩
theorem markR_nil (A : Option Addr) (c : Nat) (w : World) (k0 : Int) : Calls Try.prog 73 #[.slice A 0 c, .int .i64 k0] w fun e w' => e = .returned (.int .i64 k0) ∧ w = w' := by
  go_enter Try.func73, Try.ntmps73
  go_wp2_with fail
  go_loop [1, 5] (fun s i => i = .int .i64 0 ∧ s = .int .i64 k0) (fun _ i => 0)
  case atStart => exact ⟨rfl, rfl⟩
  case round =>
    obtain ⟨rfl, rfl⟩ := hrel
    go_wp2_with fail
    go_ret
    exact ⟨rfl, rfl⟩
end Go.Proofs.Ytmkmaeblnnfheaa
/- A stream and a part for the exact laws: measured, copied in, compared, marked, and the marks read back. -/
namespace Go.Proofs.Ytmkmaeblnnfheaa
open Go.RowKit
attribute [local irreducible] Go.wpQuiet

section
variable {w w' : World} {b : Nat} {d : ByteArray} {f : Bool} {l n : Int} {A : Option Addr} {na ca : Nat} {B : Option Addr} {nb cb : Nat} {o : Int}
theorem Own6.newT (w : World) (T : TypeId) : Own6 (w.alloc (.cells #[.string d, .bool f, .int .i64 l, .int .i64 n, .slice A na ca, .slice B nb cb] T)) w.heap.size d f l n A na ca B nb cb := by
  refine ⟨⟨?_, ?_, ?_, ?_, ?_, ?_⟩, fun j => ?_⟩ <;> simp
theorem Own3.newT (w : World) (T : TypeId) : Own3 (w.alloc (.cells #[.int .i64 o, .string d, .bool f] T)) w.heap.size o d f := by
  refine ⟨⟨?_, ?_, ?_⟩, fun j => ?_⟩ <;> simp
theorem Own6.lt' (h : Own6 w b d f l n A na ca B nb cb) : b < w.heap.size := h.1.lt
theorem Own6.touch (h : Own6 w b d f l n A na ca B nb cb) {q s : Nat} (ht : Touch w w' q s) (hq : b < q ∨ s ≤ b) : Own6 w' b d f l n A na ca B nb cb := by
  have e := ht.block b h.1.lt hq
  exact ⟨h.1.of_cells fun j => World.cell?_of_block (w := w) (a := ⟨b, j, none⟩) e, fun j => (World.frozen?_of_block (w := w) (a := ⟨b, j, none⟩) e).trans (h.2 j)⟩
theorem Own3.touch (h : Own3 w b o d f) {q s : Nat} (ht : Touch w w' q s) (hq : b < q ∨ s ≤ b) : Own3 w' b o d f := by
  have e := ht.block b h.lt hq
  exact h.same (fun j => World.cell?_of_block (w := w) (a := ⟨b, j, none⟩) e) fun j => World.frozen?_of_block (w := w) (a := ⟨b, j, none⟩) e
end

/-- Where the two sets of a stream lie. -/
structure InSd (w : World) (Lo Hi : Nat) (A : Option Addr) (ca : Nat) (B : Option Addr) (cb : Nat) (LA LB : List Rg) : Prop where
  a : RngIn w Lo Hi A LA.length ca LA
  b : RngIn w Lo Hi B LB.length cb LB
  apart : Apart A ca B cb
section
variable {w w' : World} {Lo Hi Lo' Hi' : Nat} {A : Option Addr} {ca : Nat} {B : Option Addr} {cb : Nat} {LA LB : List Rg}
theorem InSd.below (h : InSd w Lo Hi A ca B cb LA LB) (hb : Below w.heap.size w w') : InSd w' Lo Hi A ca B cb LA LB := ⟨h.a.below hb, h.b.below hb, h.apart⟩
theorem InSd.touch (h : InSd w Lo Hi A ca B cb LA LB) (t : Touch w w' Lo' Hi') (hd : Hi ≤ Lo' ∨ Hi' ≤ Lo) : InSd w' Lo Hi A ca B cb LA LB := ⟨h.a.touch t hd, h.b.touch t hd, h.apart⟩
theorem InSd.mono (h : InSd w Lo Hi A ca B cb LA LB) (h1 : Lo' ≤ Lo) (h2 : Hi ≤ Hi') : InSd w Lo' Hi' A ca B cb LA LB := ⟨h.a.mono h1 h2, h.b.mono h1 h2, h.apart⟩
theorem InSd.low (h : InSd w Lo Hi A ca B cb LA LB) {p : Addr} (hp : p.block < Lo) (u : Value) : InSd (w.setCell p u) Lo Hi A ca B cb LA LB := ⟨h.a.setLow hp u, h.b.setLow hp u, h.apart⟩
theorem InSd.alloc (h : InSd w Lo Hi A ca B cb LA LB) (o : Obj) : InSd (w.alloc o) Lo Hi A ca B cb LA LB := ⟨h.a.alloc o, h.b.alloc o, h.apart⟩
theorem InSd.drew (h : InSd w Lo Hi A ca B cb LA LB) : InSd w.drew Lo Hi A ca B cb LA LB := ⟨h.a, h.b, h.apart⟩
end
theorem RngIn.other {w w' : World} {Lo Hi : Nat} {B : Option Addr} {n c : Nat} {L : List Rg} (h : RngIn w Lo Hi B n c L) (hn : 0 < n) {g : Nat} (t : Touch w w' g (g + 1)) (hne : ∀ y, B = some y → y.block ≠ g) : RngIn w' Lo Hi B n c L := by
  obtain ⟨q, e, r1, r2, r⟩ := h.tight hn
  have h1 : q ≠ g := hne _ e
  exact (r.touch t (by omega)).mono r1 (by omega)

theorem Touch.widen {w w' : World} {g Lo Hi : Nat} (h : Touch w w' g (g + 1)) (h1 : Lo ≤ g) (h2 : g < Hi) : Touch w w' Lo Hi := ⟨h.os, h.tape, h.output, h.size, fun k hk hb => h.block k hk (by omega)⟩
set_option maxHeartbeats 1000000 in
theorem szSend_big (d : ByteArray) (f : Bool) (l n : Int) (LA LB : List Rg) (A : Option Addr) (ca : Nat) (B : Option Addr) (cb : Nat) (w : World) (hd : d.size ≤ maxLen) (hA : LA.length ≤ maxLen) (hB : LB.length ≤ maxLen) (h : 1048576 < d.size + LA.length + LB.length) :
    Calls Try.prog 34 #[.agg #[.string d, .bool f, .int .i64 l, .int .i64 n, .slice A LA.length ca, .slice B LB.length cb], .int .i64 1048576] w fun e w' => e = .returned (.int .i64 (-1)) ∧ Below w.heap.size w w' := by
  unfold maxLen at hd hA hB
  have z := Own6.newT (d := d) (f := f) (l := l) (n := n) (A := A) (na := LA.length) (ca := ca) (B := B) (nb := LB.length) (cb := cb) w 50
  obtain ⟨⟨z0, z1, z2, z3, z4, z5⟩, zf⟩ := z
  by_cases h1 : 1048576 < d.size
  · go_enter Try.func34, Try.ntmps34
    go_wp2_with fail
    go_ret
    exact ⟨rfl, by go_grown⟩
  · by_cases h2 : 1048576 - (d.size : Int) < LA.length
    · go_enter Try.func34, Try.ntmps34
      go_wp2_with (go_at_call 69; (with_reducible refine (szR_any _ _ _ _ _ (by omega) ⟨by omega, by omega⟩).mono ?_); rintro e w1 ⟨rfl, rfl⟩; rw [if_pos (by omega)])
      go_ret
      exact ⟨rfl, by go_grown⟩
    · have h3 : 1048576 - (d.size : Int) - LA.length < LB.length := by omega
      go_enter Try.func34, Try.ntmps34
      go_wp2_with (first
        | (go_at_call_of 69 (Value.slice A LA.length ca); (with_reducible refine (szR_any _ _ _ _ _ (by omega) ⟨by omega, by omega⟩).mono ?_); rintro e w1 ⟨rfl, rfl⟩; rw [if_neg (by omega)])
        | (go_at_call_of 69 (Value.slice B LB.length cb); (with_reducible refine (szR_any _ _ _ _ _ (by omega) ⟨by omega, by omega⟩).mono ?_); rintro e w1 ⟨rfl, rfl⟩; rw [if_pos (by omega)]))
      go_ret
      exact ⟨rfl, by go_grown⟩

set_option maxHeartbeats 1000000 in
theorem szSend_ok (d : ByteArray) (f : Bool) (l n : Int) (LA LB : List Rg) (A : Option Addr) (ca : Nat) (B : Option Addr) (cb : Nat) (w : World) (h : d.size + LA.length + LB.length ≤ 1048576) :
    Calls Try.prog 34 #[.agg #[.string d, .bool f, .int .i64 l, .int .i64 n, .slice A LA.length ca, .slice B LB.length cb], .int .i64 1048576] w fun e w' => e = .returned (.int .i64 (1048576 - (d.size : Int) - LA.length - LB.length)) ∧ Below w.heap.size w w' := by
  have z := Own6.newT (d := d) (f := f) (l := l) (n := n) (A := A) (na := LA.length) (ca := ca) (B := B) (nb := LB.length) (cb := cb) w 50
  obtain ⟨⟨z0, z1, z2, z3, z4, z5⟩, zf⟩ := z
  have h2 : ¬ 1048576 - (d.size : Int) < LA.length := by omega
  have h3 : ¬ 1048576 - (d.size : Int) - LA.length < LB.length := by omega
  go_enter Try.func34, Try.ntmps34
  go_wp2_with (first
    | (go_at_call_of 69 (Value.slice A LA.length ca); (with_reducible refine (szR_any _ _ _ _ _ (by omega) ⟨by omega, by omega⟩).mono ?_); rintro e w1 ⟨rfl, rfl⟩; rw [if_neg (by omega)])
    | (go_at_call_of 69 (Value.slice B LB.length cb); (with_reducible refine (szR_any _ _ _ _ _ (by omega) ⟨by omega, by omega⟩).mono ?_); rintro e w1 ⟨rfl, rfl⟩; rw [if_neg (by omega)]))
  go_ret
  exact ⟨rfl, by go_grown⟩

set_option maxRecDepth 100000 in
set_option maxHeartbeats 4000000 in
theorem toSend_any (d : ByteArray) (f : Bool) (l n : Int) (LA LB : List Rg) (A : Option Addr) (ca : Nat) (B : Option Addr) (cb : Nat) (w : World) (hA : RngAt w A LA.length LA) (hB : RngAt w B LB.length LB) (hn : LA.length ≤ 1048576) (hn' : LB.length ≤ 1048576) :
    Calls Try.prog 36 #[.agg #[.string d, .bool f, .int .i64 l, .int .i64 n, .slice A LA.length ca, .slice B LB.length cb]] w fun e w' => (∃ v, e = .returned v ∧ GotSd w ⟨d, f, l, n, LA, LB⟩ v w') ∧ Below w.heap.size w w' := by
  have z := ((Own6.newT (d := d) (f := f) (l := l) (n := n) (A := A) (na := LA.length) (ca := ca) (B := B) (nb := LB.length) (cb := cb) w 50).alloc (.cells #[.string ⟨#[]⟩, .bool false, .int .i64 0, .int .i64 0, .slice none 0 0, .slice none 0 0] 25)).alloc (.cells #[.string ⟨#[]⟩, .bool false, .int .i64 0, .int .i64 0, .slice none 0 0, .slice none 0 0] 25)
  have r := (Own6.new (d := ⟨#[]⟩) (f := false) (l := 0) (n := 0) (A := none) (na := 0) (ca := 0) (B := none) (nb := 0) (cb := 0) (w.alloc (.cells #[.string d, .bool f, .int .i64 l, .int .i64 n, .slice A LA.length ca, .slice B LB.length cb] 50))).alloc (.cells #[.string ⟨#[]⟩, .bool false, .int .i64 0, .int .i64 0, .slice none 0 0, .slice none 0 0] 25)
  have o := Own6.new (d := ⟨#[]⟩) (f := false) (l := 0) (n := 0) (A := none) (na := 0) (ca := 0) (B := none) (nb := 0) (cb := 0) ((w.alloc (.cells #[.string d, .bool f, .int .i64 l, .int .i64 n, .slice A LA.length ca, .slice B LB.length cb] 50)).alloc (.cells #[.string ⟨#[]⟩, .bool false, .int .i64 0, .int .i64 0, .slice none 0 0, .slice none 0 0] 25))
  rw [show (w.alloc (.cells #[.string d, .bool f, .int .i64 l, .int .i64 n, .slice A LA.length ca, .slice B LB.length cb] 50)).heap.size = w.heap.size + 1 from by simp] at r
  rw [show ((w.alloc (.cells #[.string d, .bool f, .int .i64 l, .int .i64 n, .slice A LA.length ca, .slice B LB.length cb] 50)).alloc (.cells #[.string ⟨#[]⟩, .bool false, .int .i64 0, .int .i64 0, .slice none 0 0, .slice none 0 0] 25)).heap.size = w.heap.size + 1 + 1 from by simp] at o
  have hW0 : Below w.heap.size w _ := (((Below.refl _ w).alloc (Nat.le_refl _) (.cells #[.string d, .bool f, .int .i64 l, .int .i64 n, .slice A LA.length ca, .slice B LB.length cb] 50)).alloc (by simp) (.cells #[.string ⟨#[]⟩, .bool false, .int .i64 0, .int .i64 0, .slice none 0 0, .slice none 0 0] 25)).alloc (by simp; omega) (.cells #[.string ⟨#[]⟩, .bool false, .int .i64 0, .int .i64 0, .slice none 0 0, .slice none 0 0] 25)
  have hsz : (((w.alloc (.cells #[.string d, .bool f, .int .i64 l, .int .i64 n, .slice A LA.length ca, .slice B LB.length cb] 50)).alloc (.cells #[.string ⟨#[]⟩, .bool false, .int .i64 0, .int .i64 0, .slice none 0 0, .slice none 0 0] 25)).alloc (.cells #[.string ⟨#[]⟩, .bool false, .int .i64 0, .int .i64 0, .slice none 0 0, .slice none 0 0] 25)).heap.size = w.heap.size + 1 + 1 + 1 := by simp
  have zm := ((Own6.newT (d := d) (f := f) (l := l) (n := n) (A := A) (na := LA.length) (ca := ca) (B := B) (nb := LB.length) (cb := cb) w 50).alloc (.cells #[.string ⟨#[]⟩, .bool false, .int .i64 0, .int .i64 0, .slice none 0 0, .slice none 0 0] 25)).alloc (.cells #[.string d, .bool f, .int .i64 l, .int .i64 n, .slice none 0 0, .slice none 0 0] 25)
  have rm := (Own6.new (d := ⟨#[]⟩) (f := false) (l := 0) (n := 0) (A := none) (na := 0) (ca := 0) (B := none) (nb := 0) (cb := 0) (w.alloc (.cells #[.string d, .bool f, .int .i64 l, .int .i64 n, .slice A LA.length ca, .slice B LB.length cb] 50))).alloc (.cells #[.string d, .bool f, .int .i64 l, .int .i64 n, .slice none 0 0, .slice none 0 0] 25)
  have om := Own6.new (d := d) (f := f) (l := l) (n := n) (A := none) (na := 0) (ca := 0) (B := none) (nb := 0) (cb := 0) ((w.alloc (.cells #[.string d, .bool f, .int .i64 l, .int .i64 n, .slice A LA.length ca, .slice B LB.length cb] 50)).alloc (.cells #[.string ⟨#[]⟩, .bool false, .int .i64 0, .int .i64 0, .slice none 0 0, .slice none 0 0] 25))
  rw [show (w.alloc (.cells #[.string d, .bool f, .int .i64 l, .int .i64 n, .slice A LA.length ca, .slice B LB.length cb] 50)).heap.size = w.heap.size + 1 from by simp] at rm
  rw [show ((w.alloc (.cells #[.string d, .bool f, .int .i64 l, .int .i64 n, .slice A LA.length ca, .slice B LB.length cb] 50)).alloc (.cells #[.string ⟨#[]⟩, .bool false, .int .i64 0, .int .i64 0, .slice none 0 0, .slice none 0 0] 25)).heap.size = w.heap.size + 1 + 1 from by simp] at om
  have hWm : Below w.heap.size w _ := (((Below.refl _ w).alloc (Nat.le_refl _) (.cells #[.string d, .bool f, .int .i64 l, .int .i64 n, .slice A LA.length ca, .slice B LB.length cb] 50)).alloc (by simp) (.cells #[.string ⟨#[]⟩, .bool false, .int .i64 0, .int .i64 0, .slice none 0 0, .slice none 0 0] 25)).alloc (by simp; omega) (.cells #[.string d, .bool f, .int .i64 l, .int .i64 n, .slice none 0 0, .slice none 0 0] 25)
  have hsm : (((w.alloc (.cells #[.string d, .bool f, .int .i64 l, .int .i64 n, .slice A LA.length ca, .slice B LB.length cb] 50)).alloc (.cells #[.string ⟨#[]⟩, .bool false, .int .i64 0, .int .i64 0, .slice none 0 0, .slice none 0 0] 25)).alloc (.cells #[.string d, .bool f, .int .i64 l, .int .i64 n, .slice none 0 0, .slice none 0 0] 25)).heap.size = w.heap.size + 1 + 1 + 1 := by simp
  have ZM := hid_of zm
  have RM := hid_of rm
  have OM := hid_of om
  clear zm rm om
  have HZ := hid_of z
  have HR := hid_of r
  have HO := hid_of o
  obtain ⟨⟨z0, z1, z2, z3, z4, z5⟩, zf⟩ := z
  obtain ⟨⟨o0, o1, o2, o3, o4, o5⟩, of⟩ := o
  obtain ⟨⟨r0, r1, r2, r3, r4, r5⟩, rf⟩ := r
  go_enter Try.func36, Try.ntmps36
  go_wp2_with (first
    | (go_at_call_of 71 (Value.slice A LA.length ca); (with_reducible refine (toR_any A LA.length ca LA _ (hA.below hWm) hn).mono ?_); rintro e w1 ⟨A1, c1, rfl, hI1, hb1⟩; have O1 := hid_of (OM.out.under hb1 (by omega)); have Z1 := hid_of (ZM.out.under hb1 (by omega)); have R1 := hid_of (RM.out.under hb1 (by omega)); have hI1 : RngIn w1 (w.heap.size + 1 + 1 + 1) w1.heap.size A1 LA.length c1 LA := hI1.mono (by omega) (Nat.le_refl _); have hs1 : w.heap.size + 1 + 1 + 1 ≤ w1.heap.size := (by have := hb1.size; omega); have hw1 : Below w.heap.size w w1 := hWm.trans (hb1.mono (by omega)); clear z0 z1 z2 z3 z4 z5 zf o0 o1 o2 o3 o4 o5 of r0 r1 r2 r3 r4 r5 rf hb1; obtain ⟨⟨z0, z1, z2, z3, z4, z5⟩, zf⟩ := Z1.out; obtain ⟨⟨o0, o1, o2, o3, o4, o5⟩, of⟩ := O1.out; obtain ⟨⟨r0, r1, r2, r3, r4, r5⟩, rf⟩ := R1.out)
    | (go_at_call_of 71 (Value.slice B LB.length cb); (with_reducible refine (toR_any B LB.length cb LB _ (hB.below (hw1.setCell (p := ⟨w.heap.size + 1 + 1, 4, none⟩) (by (try dsimp only); omega) (.slice A1 LA.length c1))) hn').mono ?_); rintro e w2 ⟨B1, c2, rfl, hI2, hb2⟩; have O2 := hid_of ((O1.out.set4 A1 LA.length c1).under hb2 (by simp [World.setCell]; omega)); have R2 := hid_of ((R1.out.other (p := ⟨w.heap.size + 1 + 1, 4, none⟩) (by (try dsimp only); omega) (.slice A1 LA.length c1)).under hb2 (by simp [World.setCell]; omega)); have hI2 : RngIn w2 w1.heap.size w2.heap.size B1 LB.length c2 LB := hI2.mono (by simp [World.setCell]) (Nat.le_refl _); have hs2 : w1.heap.size ≤ w2.heap.size := (by have := hb2.size; simpa [World.setCell] using this); have hw2 : Below w.heap.size w w2 := (hw1.setCell (p := ⟨w.heap.size + 1 + 1, 4, none⟩) (by (try dsimp only); omega) (.slice A1 LA.length c1)).trans (hb2.mono (by simp [World.setCell]; omega)); have hI1' : RngIn w2 (w.heap.size + 1 + 1 + 1) w1.heap.size A1 LA.length c1 LA := ((hI1.setLow (p := ⟨w.heap.size + 1 + 1, 4, none⟩) (by (try dsimp only); omega) (.slice A1 LA.length c1)).below hb2); clear z0 z1 z2 z3 z4 z5 zf o0 o1 o2 o3 o4 o5 of r0 r1 r2 r3 r4 r5 rf hb2; obtain ⟨⟨o0, o1, o2, o3, o4, o5⟩, of⟩ := O2.out; obtain ⟨⟨r0, r1, r2, r3, r4, r5⟩, rf⟩ := R2.out))
  try simp only [Exit.inBlock, Exit.then]
  refine bodyPost_ret (results_snd rfl rfl ((R2.out.other (by (try dsimp only); omega) _).setAll d f l n A1 LA.length c1 B1 LB.length c2).1) rfl ?_
  refine ⟨⟨_, rfl, A1, c1, B1, c2, rfl, ?_, ?_, ?_⟩, ?_⟩
  · refine RngIn.mono (B := w.heap.size + 1 + 1 + 1) (S := w1.heap.size) ?_ (by omega) (by simp [World.setCell]; omega)
    repeat refine RngIn.setLow ?_ (by (try dsimp only); omega) _
    exact hI1'
  · refine RngIn.mono (B := w1.heap.size) (S := w2.heap.size) ?_ (by omega) (by simp [World.setCell])
    repeat refine RngIn.setLow ?_ (by (try dsimp only); omega) _
    exact hI2
  · exact apart_of hI1' hI2 (.inl (Nat.le_refl _))
  · repeat refine Below.setCell ?_ (by (try dsimp only); omega) _
    exact hw2

set_option maxHeartbeats 1000000 in
theorem eqSend_any (d : ByteArray) (f : Bool) (l n : Int) (LA LB : List Rg) (A : Option Addr) (ca : Nat) (B : Option Addr) (cb : Nat) (A' : Option Addr) (ca' : Nat) (B' : Option Addr) (cb' : Nat) (w : World) (hA : RngAt w A LA.length LA) (hB : RngAt w B LB.length LB) (hA' : RngAt w A' LA.length LA) (hB' : RngAt w B' LB.length LB) (hn : LA.length ≤ 2000000) (hn' : LB.length ≤ 2000000) :
    Calls Try.prog 37 #[.agg #[.string d, .bool f, .int .i64 l, .int .i64 n, .slice A LA.length ca, .slice B LB.length cb], .agg #[.string d, .bool f, .int .i64 l, .int .i64 n, .slice A' LA.length ca', .slice B' LB.length cb']] w fun e w' => e = .returned (.bool true) ∧ Below w.heap.size w w' := by
  have z := (Own6.new (d := d) (f := f) (l := l) (n := n) (A := A) (na := LA.length) (ca := ca) (B := B) (nb := LB.length) (cb := cb) w).alloc (.cells #[.string d, .bool f, .int .i64 l, .int .i64 n, .slice A' LA.length ca', .slice B' LB.length cb'] 25)
  have y := Own6.new (d := d) (f := f) (l := l) (n := n) (A := A') (na := LA.length) (ca := ca') (B := B') (nb := LB.length) (cb := cb') (w.alloc (.cells #[.string d, .bool f, .int .i64 l, .int .i64 n, .slice A LA.length ca, .slice B LB.length cb] 25))
  rw [show (w.alloc (.cells #[.string d, .bool f, .int .i64 l, .int .i64 n, .slice A LA.length ca, .slice B LB.length cb] 25)).heap.size = w.heap.size + 1 from by simp] at y
  have hW0 : Below w.heap.size w _ := ((Below.refl _ w).alloc (Nat.le_refl _) (.cells #[.string d, .bool f, .int .i64 l, .int .i64 n, .slice A LA.length ca, .slice B LB.length cb] 25)).alloc (by simp) (.cells #[.string d, .bool f, .int .i64 l, .int .i64 n, .slice A' LA.length ca', .slice B' LB.length cb'] 25)
  have hs0 : ((w.alloc (.cells #[.string d, .bool f, .int .i64 l, .int .i64 n, .slice A LA.length ca, .slice B LB.length cb] 25)).alloc (.cells #[.string d, .bool f, .int .i64 l, .int .i64 n, .slice A' LA.length ca', .slice B' LB.length cb'] 25)).heap.size = w.heap.size + 1 + 1 := by simp
  have HZ := hid_of z
  have HY := hid_of y
  obtain ⟨⟨z0, z1, z2, z3, z4, z5⟩, zf⟩ := z
  obtain ⟨⟨y0, y1, y2, y3, y4, y5⟩, yf⟩ := y
  go_enter Try.func37, Try.ntmps37
  go_wp2_with (first
    | (go_at_call_of 72 (Value.slice A LA.length ca); (with_reducible refine (eqR_any A A' LA.length ca ca' LA _ (hA.below hW0) (hA'.below hW0) hn).mono ?_); rintro e w1 ⟨rfl, hb1⟩; obtain ⟨⟨z0, z1, z2, z3, z4, z5⟩, zf⟩ := HZ.out.under hb1 (by omega); obtain ⟨⟨y0, y1, y2, y3, y4, y5⟩, yf⟩ := HY.out.under hb1 (by omega); have hw1 := hW0.trans (hb1.mono hW0.size))
    | (go_at_call_of 72 (Value.slice B LB.length cb); (with_reducible refine (eqR_any B B' LB.length cb cb' LB _ (hB.below hw1) (hB'.below hw1) hn').mono ?_); rintro e w2 ⟨rfl, hb2⟩; have hw2 := hw1.trans (hb2.mono hw1.size)))
  go_ret
  exact ⟨rfl, hw2⟩

set_option maxHeartbeats 1000000 in
theorem markSend_any {Lo Hi : Nat} (d : ByteArray) (f : Bool) (l n : Int) (LA LB : List Rg) (A : Option Addr) (ca : Nat) (B : Option Addr) (cb : Nat) (w : World) (k0 : Int) (h : InSd w Lo Hi A ca B cb LA LB) (hk0 : 0 ≤ k0) (hk1 : k0 ≤ 10) (hn : LA.length ≤ 2000000) (hn' : LB.length ≤ 2000000) (hHi : Hi ≤ w.heap.size) :
    Calls Try.prog 39 #[.agg #[.string d, .bool f, .int .i64 l, .int .i64 n, .slice A LA.length ca, .slice B LB.length cb], .int .i64 k0] w fun e w' => e = .returned (.int .i64 (k0 + 2 * (LA.length : Int) + 2 * (LB.length : Int))) ∧ RngAt w' A LA.length (marks k0 LA.length) ∧ RngAt w' B LB.length (marks (k0 + 2 * (LA.length : Int)) LB.length) ∧ Touch w w' Lo Hi := by
  have z := Own6.new (d := d) (f := f) (l := l) (n := n) (A := A) (na := LA.length) (ca := ca) (B := B) (nb := LB.length) (cb := cb) w
  have HZ := hid_of z
  have h0 := h.alloc (.cells #[.string d, .bool f, .int .i64 l, .int .i64 n, .slice A LA.length ca, .slice B LB.length cb] 25)
  have t0 : Touch w (w.alloc (.cells #[.string d, .bool f, .int .i64 l, .int .i64 n, .slice A LA.length ca, .slice B LB.length cb] 25)) Lo Hi := (Touch.refl w Lo Hi).alloc _
  obtain ⟨⟨z0, z1, z2, z3, z4, z5⟩, zf⟩ := z
  have ha0 := h0.a
  have hb0 := h0.b
  have hap : 0 < LA.length → 0 < LB.length → ∀ x y, A = some x → B = some y → x.block ≠ y.block := fun e1 e2 => h0.apart (Nat.lt_of_lt_of_le e1 h0.a.cap.1) (Nat.lt_of_lt_of_le e2 h0.b.cap.1)
  clear h0 h
  generalize hna : LA.length = na at *
  generalize hnb : LB.length = nb at *
  rcases Nat.eq_zero_or_pos na with e | ha
  · subst e
    rcases Nat.eq_zero_or_pos nb with e | hb
    · subst e
      go_enter Try.func39, Try.ntmps39
      go_wp2_with (first
        | (go_at_call_of 73 (Value.slice A 0 ca); (with_reducible refine (markR_nil A ca _ k0).mono ?_); rintro e w1 ⟨rfl, rfl⟩)
        | (go_at_call_of 73 (Value.slice B 0 cb); (with_reducible refine (markR_nil B cb _ k0).mono ?_); rintro e w1 ⟨rfl, rfl⟩))
      go_ret
      exact ⟨ret_int (by omega), RngAt.nil _ _, RngAt.nil _ _, t0⟩
    · go_enter Try.func39, Try.ntmps39
      go_wp2_with (first
        | (go_at_call_of 73 (Value.slice A 0 ca); (with_reducible refine (markR_nil A ca _ k0).mono ?_); rintro e w1 ⟨rfl, rfl⟩)
        | (go_at_call_of 73 (Value.slice B nb cb); (with_reducible refine (markR_in B nb cb LB _ k0 hb0 hk0 (by omega) hn' hb).mono ?_); rintro e w2 ⟨rfl, g, eg, g0, g1, hJ, ht⟩))
      go_ret
      exact ⟨ret_int (by omega), RngAt.nil _ _, by rw [show k0 + 2 * ((0 : Nat) : Int) = k0 from by omega]; exact hJ.reads, t0.trans (ht.widen g0 g1)⟩
  · rcases Nat.eq_zero_or_pos nb with e | hb
    · subst e
      go_enter Try.func39, Try.ntmps39
      go_wp2_with (first
        | (go_at_call_of 73 (Value.slice A na ca); (with_reducible refine (markR_in A na ca LA _ k0 ha0 hk0 (by omega) hn ha).mono ?_); rintro e w1 ⟨rfl, g, eg, g0, g1, hI, ht⟩; obtain ⟨⟨z0, z1, z2, z3, z4, z5⟩, zf⟩ := HZ.out.touch ht (by omega))
        | (go_at_call_of 73 (Value.slice B 0 cb); (with_reducible refine (markR_nil B cb _ (k0 + 2 * (na : Int))).mono ?_); rintro e w1 ⟨rfl, rfl⟩))
      go_ret
      exact ⟨ret_int (by omega), hI.reads, RngAt.nil _ _, t0.trans (ht.widen g0 g1)⟩
    · go_enter Try.func39, Try.ntmps39
      go_wp2_with (first
        | (go_at_call_of 73 (Value.slice A na ca); (with_reducible refine (markR_in A na ca LA _ k0 ha0 hk0 (by omega) hn ha).mono ?_); rintro e w1 ⟨rfl, g, eg, g0, g1, hI, ht⟩; have hJ := hb0.other hb ht (fun y ey => fun e => hap ha hb ⟨g, 0, none⟩ y eg ey e.symm); obtain ⟨⟨z0, z1, z2, z3, z4, z5⟩, zf⟩ := HZ.out.touch ht (by omega))
        | (go_at_call_of 73 (Value.slice B nb cb); (with_reducible refine (markR_in B nb cb LB _ (k0 + 2 * (na : Int)) hJ (by omega) (by omega) hn' hb).mono ?_); rintro e w2 ⟨rfl, g', eg', g0', g1', hJ', ht'⟩))
      go_ret
      exact ⟨ret_int (by omega), (hI.other ha ht' (fun y ey => fun e => by rw [eg] at ey; cases ey; exact hap ha hb ⟨g, 0, none⟩ ⟨g', 0, none⟩ eg eg' e)).reads, hJ'.reads, (t0.trans (ht.widen g0 g1)).trans (ht'.widen g0' g1')⟩

set_option maxHeartbeats 1000000 in
theorem heldSend_any (d : ByteArray) (f : Bool) (l n : Int) (A : Option Addr) (ca : Nat) (B : Option Addr) (cb : Nat) (w : World) (k0 : Int) (na nb : Nat) (h : RngAt w A na (marks k0 na)) (h' : RngAt w B nb (marks (k0 + 2 * (na : Int)) nb)) (hk0 : 0 ≤ k0) (hk1 : k0 ≤ 10) (hn : na ≤ 2000000) (hn' : nb ≤ 2000000) :
    Calls Try.prog 40 #[.agg #[.string d, .bool f, .int .i64 l, .int .i64 n, .slice A na ca, .slice B nb cb], .int .i64 k0] w fun e w' => e = .returned (.int .i64 (k0 + 2 * (na : Int) + 2 * (nb : Int))) ∧ Below w.heap.size w w' := by
  have z := Own6.new (d := d) (f := f) (l := l) (n := n) (A := A) (na := na) (ca := ca) (B := B) (nb := nb) (cb := cb) w
  obtain ⟨⟨z0, z1, z2, z3, z4, z5⟩, zf⟩ := z
  go_enter Try.func40, Try.ntmps40
  go_wp2_with (first
    | (go_at_call_of 74 (Value.slice A na ca); (with_reducible refine (heldR_any A na ca _ k0 (h.alloc _) hk0 (by omega) hn).mono ?_); rintro e w1 ⟨rfl, rfl⟩)
    | (go_at_call_of 74 (Value.slice B nb cb); (with_reducible refine (heldR_any B nb cb _ (k0 + 2 * (na : Int)) (h'.alloc _) (by omega) (by omega) hn').mono ?_); rintro e w1 ⟨rfl, rfl⟩))
  go_ret
  exact ⟨rfl, (Below.refl _ _).alloc (Nat.le_refl _) _⟩

end Go.Proofs.Ytmkmaeblnnfheaa
/- The laws' own comparisons of streams. -/
namespace Go.Proofs.Ytmkmaeblnnfheaa
open Go.RowKit
attribute [local irreducible] Go.wpQuiet

set_option maxHeartbeats 1000000 in
set_option maxRecDepth 100000 in
theorem sameR_any (A A' : Option Addr) (n c c' : Nat) (L : List Rg) (w : World) (h : RngAt w A n L) (h' : RngAt w A' n L) (hn : n ≤ 2000000) :
    Calls Try.prog 52 #[.slice A n c, .slice A' n c'] w fun e w' => e = .returned (.bool true) ∧ Below w.heap.size w w' := by
  go_enter Try.func52, Try.ntmps52
  go_wp2_with fail
  go_loopw [5] (fun i wr => ∃ k, i = .int .i64 (k : Nat) ∧ k ≤ n ∧ Below w.heap.size w wr) (fun i _ => n - (intOf i).toNat)
  case atStart => exact ⟨0, rfl, Nat.zero_le _, Below.refl _ _⟩
  case round =>
    obtain ⟨k, rfl, hk, hb⟩ := hrel
    by_cases hlt : k < n
    · obtain ⟨g, off, rfl, _, hc⟩ := (h.below hb).2 (by omega)
      obtain ⟨g', off', rfl, _, hc'⟩ := (h'.below hb).2 (by omega)
      obtain ⟨c0, c1⟩ := hc k hlt
      obtain ⟨d0, d1⟩ := hc' k hlt
      clear hc hc'
      go_wp2_with fail
      go_quiet (fail)
      go_wp2_with fail
      go_roundw
      case rel => exact ⟨k + 1, by go_num, by omega, below_drewN' hb _⟩
      case measure => simp [intOf]; omega
    · have hkn : k = n := by omega
      subst hkn
      clear hlt
      go_wp2_with fail
      go_ret
      exact ⟨rfl, hb⟩

set_option maxHeartbeats 1000000 in
theorem sameS_any (d : ByteArray) (f : Bool) (l n : Int) (LA LB : List Rg) (A : Option Addr) (ca : Nat) (B : Option Addr) (cb : Nat) (A' : Option Addr) (ca' : Nat) (B' : Option Addr) (cb' : Nat) (w : World) (hA : RngAt w A LA.length LA) (hB : RngAt w B LB.length LB) (hA' : RngAt w A' LA.length LA) (hB' : RngAt w B' LB.length LB) (hn : LA.length ≤ 2000000) (hn' : LB.length ≤ 2000000) :
    Calls Try.prog 16 #[.agg #[.string d, .bool f, .int .i64 l, .int .i64 n, .slice A LA.length ca, .slice B LB.length cb], .agg #[.string d, .bool f, .int .i64 l, .int .i64 n, .slice A' LA.length ca', .slice B' LB.length cb']] w fun e w' => e = .returned (.bool true) ∧ Below w.heap.size w w' := by
  have z := (Own6.new (d := d) (f := f) (l := l) (n := n) (A := A) (na := LA.length) (ca := ca) (B := B) (nb := LB.length) (cb := cb) w).alloc (.cells #[.string d, .bool f, .int .i64 l, .int .i64 n, .slice A' LA.length ca', .slice B' LB.length cb'] 25)
  have y := Own6.new (d := d) (f := f) (l := l) (n := n) (A := A') (na := LA.length) (ca := ca') (B := B') (nb := LB.length) (cb := cb') (w.alloc (.cells #[.string d, .bool f, .int .i64 l, .int .i64 n, .slice A LA.length ca, .slice B LB.length cb] 25))
  rw [show (w.alloc (.cells #[.string d, .bool f, .int .i64 l, .int .i64 n, .slice A LA.length ca, .slice B LB.length cb] 25)).heap.size = w.heap.size + 1 from by simp] at y
  have hW0 : Below w.heap.size w _ := ((Below.refl _ w).alloc (Nat.le_refl _) (.cells #[.string d, .bool f, .int .i64 l, .int .i64 n, .slice A LA.length ca, .slice B LB.length cb] 25)).alloc (by simp) (.cells #[.string d, .bool f, .int .i64 l, .int .i64 n, .slice A' LA.length ca', .slice B' LB.length cb'] 25)
  have hs0 : ((w.alloc (.cells #[.string d, .bool f, .int .i64 l, .int .i64 n, .slice A LA.length ca, .slice B LB.length cb] 25)).alloc (.cells #[.string d, .bool f, .int .i64 l, .int .i64 n, .slice A' LA.length ca', .slice B' LB.length cb'] 25)).heap.size = w.heap.size + 1 + 1 := by simp
  have HZ := hid_of z
  have HY := hid_of y
  obtain ⟨⟨z0, z1, z2, z3, z4, z5⟩, zf⟩ := z
  obtain ⟨⟨y0, y1, y2, y3, y4, y5⟩, yf⟩ := y
  go_enter Try.func16, Try.ntmps16
  go_wp2_with (first
    | (go_at_call_of 52 (Value.slice A LA.length ca); (with_reducible refine (sameR_any A A' LA.length ca ca' LA _ (hA.below hW0) (hA'.below hW0) hn).mono ?_); rintro e w1 ⟨rfl, hb1⟩; obtain ⟨⟨z0, z1, z2, z3, z4, z5⟩, zf⟩ := HZ.out.under hb1 (by omega); obtain ⟨⟨y0, y1, y2, y3, y4, y5⟩, yf⟩ := HY.out.under hb1 (by omega); have hw1 := hW0.trans (hb1.mono hW0.size))
    | (go_at_call_of 52 (Value.slice B LB.length cb); (with_reducible refine (sameR_any B B' LB.length cb cb' LB _ (hB.below hw1) (hB'.below hw1) hn').mono ?_); rintro e w2 ⟨rfl, hb2⟩; have hw2 := hw1.trans (hb2.mono hw1.size)))
  go_ret
  exact ⟨rfl, hw2⟩

end Go.Proofs.Ytmkmaeblnnfheaa
/- The reference's addition of numbers. -/
namespace Go.Proofs.Ytmkmaeblnnfheaa
open Go.RowKit

theorem ad_next {L : List Rg} {k : Nat} {s : Ad} (h : k < L.length) : (L.take (k + 1)).foldl adStep s = adStep ((L.take k).foldl adStep s) (rth L k) := by
  rw [List.take_succ_eq_append_getElem h, List.foldl_append, rth_eq h]
  rfl
theorem ad_a {O : List Rg} {lo hi : Int} {p : Bool} {r : Rg} (h : r.hi < lo - 1) : adStep ⟨O, lo, hi, p⟩ r = ⟨O ++ [r], lo, hi, p⟩ := by unfold adStep; dsimp only; rw [if_pos h]
theorem ad_b {O : List Rg} {lo hi : Int} {r : Rg} (h : ¬ r.hi < lo - 1) (h2 : hi + 1 < r.lo) : adStep ⟨O, lo, hi, true⟩ r = ⟨O ++ [r], lo, hi, true⟩ := by unfold adStep; dsimp only; rw [if_neg h, if_pos h2, if_pos rfl]
theorem ad_c {O : List Rg} {lo hi : Int} {r : Rg} (h : ¬ r.hi < lo - 1) (h2 : hi + 1 < r.lo) : adStep ⟨O, lo, hi, false⟩ r = ⟨O ++ [⟨lo, hi⟩] ++ [r], lo, hi, true⟩ := by unfold adStep; dsimp only; rw [if_neg h, if_pos h2, if_neg (by decide)]
theorem ad_d {O : List Rg} {lo hi : Int} {p : Bool} {r : Rg} (h : ¬ r.hi < lo - 1) (h2 : ¬ hi + 1 < r.lo) : adStep ⟨O, lo, hi, p⟩ r = ⟨O, min lo r.lo, max hi r.hi, p⟩ := by unfold adStep; dsimp only; rw [if_neg h, if_neg h2]

set_option maxHeartbeats 4000000 in
theorem l2Add_any (A : Option Addr) (n c : Nat) (L : List Rg) (w : World) (lo hi : Int) (h : RngAt w A n L) (hn : n ≤ 100000) (hlo : -1000000 ≤ lo ∧ lo ≤ 1000000) (hhi : -1000000 ≤ hi ∧ hi ≤ 1000000)
    (hbd : ∀ r, r ∈ L → (-1000000 ≤ r.lo ∧ r.lo ≤ 1000000) ∧ -1000000 ≤ r.hi ∧ r.hi ≤ 1000000) :
    Calls Try.prog 83 #[.slice A n c, .int .i64 lo, .int .i64 hi] w (GotRng w (specAdd L lo hi)) := by
  have hl := hid_of h.1
  have HBD := hid_of hbd
  obtain ⟨hlo0, hlo1⟩ := hlo
  obtain ⟨hhi0, hhi1⟩ := hhi
  clear hbd
  unfold specAdd
  obtain ⟨S0, hS0⟩ : ∃ s : Ad, s = ⟨[], lo, hi, false⟩ := ⟨_, rfl⟩
  rw [← hS0]
  have HS0 := hid_of hS0
  clear hS0
  go_enter Try.func83, Try.ntmps83
  go_wp2_with fail
  go_loopw [1, 2, 7, 8, 9] (fun x y s p i wr => ∃ (k : Nat) (A' : Option Addr) (c' m : Nat) (O : List Rg) (l' h' : Int) (b : Bool), x = .int .i64 l' ∧ y = .int .i64 h' ∧ p = .bool b ∧ i = .int .i64 (k : Nat) ∧ s = .slice A' m c' ∧ k ≤ n ∧ m ≤ 2 * k ∧ Hid ((L.take k).foldl adStep S0 = ⟨O, l', h', b⟩) ∧ (-1000000 ≤ l' ∧ l' ≤ 1000000) ∧ (-1000000 ≤ h' ∧ h' ≤ 1000000) ∧ RngIn wr w.heap.size wr.heap.size A' m c' O ∧ Below w.heap.size w wr) (fun _ _ _ _ i _ => n - (intOf i).toNat)
  case atStart => exact ⟨0, _, 0, 0, [], lo, hi, false, rfl, rfl, rfl, rfl, rfl, Nat.zero_le _, by omega, HS0.out, ⟨hlo0, hlo1⟩, ⟨hhi0, hhi1⟩, RngIn.empty _ _ _ _, ba (Below.refl _ _) _⟩
  case round =>
    obtain ⟨k, A', c', m, O, l', h', b, rfl, rfl, rfl, rfl, rfl, hk, hm, HF, ⟨hl0, hl1⟩, ⟨hh0, hh1⟩, hI, hb⟩ := hrel
    have hsr := hb.size
    by_cases hlt : k < n
    · obtain ⟨g, off, rfl, hgl, hc⟩ := (h.below hb).2 (by omega)
      obtain ⟨c0, c1⟩ := hc k hlt
      have hnx := ad_next (L := L) (k := k) (s := S0) (by rw [hl.out]; exact hlt)
      rw [HF.out] at hnx
      obtain ⟨⟨hr0, hr1⟩, hr2, hr3⟩ := HBD.out _ (rth_mem (L := L) (i := k) (by rw [hl.out]; exact hlt))
      obtain ⟨⟨rl, rh⟩, hx⟩ : ∃ x, x = rth L k := ⟨_, rfl⟩
      rw [← hx] at c0 c1 hnx hr0 hr1 hr2 hr3
      dsimp only at c0 c1 hr0 hr1 hr2 hr3
      have HNX := hid_of hnx
      clear hc hx hnx
      obtain ⟨mv, hmv⟩ : ∃ v, (if rl < l' then rl else l') = v := ⟨_, rfl⟩
      obtain ⟨xv, hxv⟩ : ∃ v, (if h' < rh then rh else h') = v := ⟨_, rfl⟩
      have HMV : Hid (min l' rl = mv) := by unfold Hid; rw [← hmv]; split <;> omega
      have HXV : Hid (max h' rh = xv) := by unfold Hid; rw [← hxv]; split <;> omega
      by_cases t1 : rh < l' - 1
      · rw [ad_a t1] at HNX
        go_wp2_with (at_builtin; refine wpList_snoc_rng _ rfl _ _ rfl ⟨rl, rh⟩ rfl (hI.alloc _) (by simp; omega) (by omega) (by simp) rfl (by simp) (by simp) ?_; intro A2 c2 w2 hI2 ht2; have hb2 : Below w.heap.size w w2 := below_touch hb (alloc_touch ht2) (Nat.le_refl _) hsr; clear ht2)
        go_roundw
        case rel => exact ⟨k + 1, A2, c2, m + 1, O ++ [⟨rl, rh⟩], l', h', b, rfl, rfl, rfl, by go_num, rfl, by omega, by omega, HNX, ⟨hl0, hl1⟩, ⟨hh0, hh1⟩, hI2, hb2⟩
        case measure => simp [intOf]; omega
      by_cases t2 : h' + 1 < rl
      · cases b with
        | true =>
          rw [ad_b t1 t2] at HNX
          go_wp2_with (at_builtin; refine wpList_snoc_rng _ rfl _ _ rfl ⟨rl, rh⟩ rfl (hI.alloc _) (by simp; omega) (by omega) (by simp) rfl (by simp) (by simp) ?_; intro A2 c2 w2 hI2 ht2; have hb2 : Below w.heap.size w w2 := below_touch hb (alloc_touch ht2) (Nat.le_refl _) hsr; clear ht2)
          go_roundw
          case rel => exact ⟨k + 1, A2, c2, m + 1, O ++ [⟨rl, rh⟩], l', h', true, rfl, rfl, rfl, by go_num, rfl, by omega, by omega, HNX, ⟨hl0, hl1⟩, ⟨hh0, hh1⟩, hI2, hb2⟩
          case measure => simp [intOf]; omega
        | false =>
          rw [ad_c t1 t2] at HNX
          have hgS : g < w.heap.size := by
            obtain ⟨_, _, e', hgw, _⟩ := h.2 (by omega)
            cases e'
            exact hgw
          go_wp2_with (first
            | (at_builtin; refine wpList_snoc_rng _ rfl _ _ rfl ⟨l', h'⟩ rfl (hI.alloc _) (by simp; omega) (by omega) (by simp) rfl (by simp) (by simp) ?_; intro A2 c2 w2 hI2 ht2; have hb2 : Below w.heap.size w w2 := below_touch hb (alloc_touch ht2) (Nat.le_refl _) hsr; have hs2 := hb2.size; have c0 := touch_cell (alloc_touch ht2) hgl (.inl hgS) c0; have c1 := touch_cell (alloc_touch ht2) hgl (.inl hgS) c1; have hgl := World.block_lt_of_cell? _ _ c0; clear ht2)
            | (at_builtin; refine wpList_snoc_rng _ rfl _ _ rfl ⟨rl, rh⟩ rfl (hI2.alloc _) (by simp; omega) (by omega) (by simp) rfl (by simp) (by simp) ?_; intro A3 c3 w3 hI3 ht3; have hb3 : Below w.heap.size w w3 := below_touch hb2 (alloc_touch ht3) (Nat.le_refl _) hs2; clear ht3))
          go_roundw
          case rel => exact ⟨k + 1, A3, c3, m + 1 + 1, O ++ [⟨l', h'⟩] ++ [⟨rl, rh⟩], l', h', true, rfl, rfl, rfl, by go_num, rfl, by omega, by omega, HNX, ⟨hl0, hl1⟩, ⟨hh0, hh1⟩, hI3, hb3⟩
          case measure => simp [intOf]; omega
      · rw [ad_d t1 t2] at HNX
        dsimp only at HNX
        rw [HMV.out, HXV.out] at HNX
        have hmb : -1000000 ≤ mv ∧ mv ≤ 1000000 := by have := HMV.out; omega
        have hxb : -1000000 ≤ xv ∧ xv ≤ 1000000 := by have := HXV.out; omega
        go_wp2_with fail
        go_roundw
        case rel => exact ⟨k + 1, A', c', m, O, mv, xv, b, rfl, rfl, rfl, by go_num, rfl, by omega, by omega, HNX.out, hmb, hxb, hI, hb⟩
        case measure => simp [intOf]; omega
    · have hkn : k = n := by omega
      subst hkn
      clear hlt
      rw [List.take_of_length_le (by rw [hl.out]; exact Nat.le_refl _)] at HF
      have hm2 := hid_of hI.1
      cases b with
      | true =>
        have e : Hid (adEnd (L.foldl adStep S0) = O) := by unfold Hid; rw [HF.out]; rfl
        go_wp2_with fail
        go_ret
        unfold GotRng
        rw [e.out, hm2.out]
        exact ⟨A', c', rfl, hI, hb⟩
      | false =>
        have e : Hid (adEnd (L.foldl adStep S0) = O ++ [⟨l', h'⟩]) := by unfold Hid; rw [HF.out]; rfl
        go_wp2_with (at_builtin; refine wpList_snoc_rng _ rfl _ _ rfl ⟨l', h'⟩ rfl (hI.alloc _) (by simp; omega) (by omega) (by simp) rfl (by simp) (by simp) ?_; intro A2 c2 w2 hI2 ht2; have hb2 : Below w.heap.size w w2 := below_touch hb (alloc_touch ht2) (Nat.le_refl _) hsr; clear ht2)
        go_ret
        unfold GotRng
        rw [e.out, List.length_append, hm2.out]
        exact ⟨A2, c2, rfl, hI2, hb2⟩

end Go.Proofs.Ytmkmaeblnnfheaa
/- A region that draws its order, walked once in an order of our choosing: operations that only look, and between them operations that turn the world, each of which comes up alone once those ahead of it in our order are done. -/
namespace Go.Proofs.Ytmkmaeblnnfheaa

section
variable {P : Program} {ops : Array Oper} {md : Region.Mode}

/-- No way out but the plain one. -/
def NoExit : Exit → Act → World → Prop := fun _ _ _ => False
theorem wp_noexit {o : Oper} {a : Act} {w : World} {K K' : Act → World → Prop} {Q : Exit → Act → World → Prop} (h : ∀ a w, K a w → K' a w) (hh : o.wp P a w K NoExit) : o.wp P a w K' Q := by
  unfold Oper.wp at *
  generalize (execOp a.eval o).run P w = r at *
  cases r with
  | ok n w' =>
    cases n <;> simp only [Oper.upon] at hh ⊢ <;>
      first
        | exact h _ _ hh
        | exact Calls.mono hh (fun e w'' he => by
            cases e with
            | returned v => exact h _ _ he
            | panicked c => exact (he : False).elim
            | outgrown => exact (he.elim fun _ he => he.elim fun _ he => (he : False).elim))
        | exact Rows.mono hh (fun _ _ he => h _ _ he)
  | halt x w' =>
    cases x <;> simp only [Oper.upon] at hh ⊢
    exact (hh : False).elim

/-- An operation that may turn the world: from each world of the class C; behind it stands a class of its own. B: the wider class in which the operations that only look yield what they yield; it may only become narrower. -/
def Turns (P : Program) (o : Oper) (a : Act) (B C : World → Prop) (K : (World → Prop) → (World → Prop) → Act → Prop) : Prop :=
  ∀ w, C w → o.wp P a w (fun a' w' => ∃ B' C' : World → Prop, C' w' ∧ (∀ x, C' x → B' x) ∧ (∀ x, B' x → B x) ∧ K B' C' a') NoExit

/-- In every world of the class it yields v and leaves that world alone: no call. -/
def LooksAt (P : Program) (o : Oper) (a : Act) (C : World → Prop) (v : Value) : Prop :=
  ∀ w, C w → (execOp a.eval o).run P w = .ok (.value v) w ∨ ((execOp a.eval o).run P w = .ok .skip w ∧ v = undef)

def opC (P : Program) (ops : Array Oper) (B C : World → Prop) (i : Nat) (K : (World → Prop) → (World → Prop) → Act → Prop) (a : Act) : Prop :=
  match ops[i]? with
  | none => K B C a
  | some o => if Region.wanted o (yielded ops a.tmps) then (∃ v, LooksAt P o a B v ∧ K B C (a.put o.dst v)) ∨ Turns P o a B C K else K B C (a.put o.dst undef)

theorem Turns.mono {o : Oper} {a : Act} {B C : World → Prop} {K K' : (World → Prop) → (World → Prop) → Act → Prop} (h : ∀ B' C' a, (∀ x, B' x → B x) → (∀ x, C' x → B' x) → K B' C' a → K' B' C' a) (hh : Turns P o a B C K) : Turns P o a B C K' :=
  fun w hw => Oper.wp_mono (fun _ _ ⟨B', C', h1, h2, h3, h4⟩ => ⟨B', C', h1, h2, h3, h _ _ _ h3 h2 h4⟩) (hh w hw)
theorem opC_mono {B C : World → Prop} (hBC : ∀ x, C x → B x) {i : Nat} {a : Act} {K K' : (World → Prop) → (World → Prop) → Act → Prop} (h : ∀ B' C' a, (∀ x, B' x → B x) → (∀ x, C' x → B' x) → K B' C' a → K' B' C' a) (hh : opC P ops B C i K a) : opC P ops B C i K' a := by
  unfold opC at *
  split
  · exact h _ _ _ (fun _ hx => hx) hBC (by simpa [*] using hh)
  · rename_i o ho
    simp only [ho] at hh
    split
    · rename_i hw
      simp only [hw, if_true] at hh
      exact hh.imp (fun ⟨v, h1, h2⟩ => ⟨v, h1, h _ _ _ (fun _ hx => hx) hBC h2⟩) (Turns.mono h)
    · rename_i hw
      simp only [hw] at hh
      exact h _ _ _ (fun _ hx => hx) hBC hh

/-- Whatever order is picked from here on. -/
def anyC (P : Program) (md : Region.Mode) (ops : Array Oper) (Q : Act → World → Prop) : Nat → Array Bool → (World → Prop) → (World → Prop) → Act → Prop
  | 0, listed, _, C, a => Region.ready md ops listed = [] ∧ ∀ w, C w → Q a w
  | f + 1, listed, B, C, a => (Region.ready md ops listed = [] → ∀ w, C w → Q a w) ∧ ∀ i ∈ Region.ready md ops listed, opC P ops B C i (anyC P md ops Q f (listed.setIfInBounds i true)) a

theorem any_of_anyC {Q : Act → World → Prop} {Q' : Exit → Act → World → Prop} (hQ : ∀ a w, Q a w → Q' .normal a w) : ∀ (f : Nat) (listed : Array Bool) (B C : World → Prop) (a : Act) (w : World), (∀ x, C x → B x) → C w → anyC P md ops Q f listed B C a → wpAny P md ops Q' f listed a w
  | 0, _, _, _, _, _, _, hw, h => ⟨h.1, hQ _ _ (h.2 _ hw)⟩
  | f + 1, listed, B, C, a, w, hBC, hw, h => ⟨fun h0 => hQ _ _ (h.1 h0 _ hw), fun i hi => by
      have h1 := h.2 i hi
      unfold opC at h1
      unfold wpOp
      split
      · rename_i ho
        simp only [ho] at h1
        exact any_of_anyC hQ f _ _ _ _ _ hBC hw h1
      · rename_i o ho
        simp only [ho] at h1
        split
        · rename_i hwd
          simp only [hwd, if_true] at h1
          refine .inl ?_
          rcases h1 with ⟨v, hl, hk⟩ | ht
          · unfold Oper.wp
            rcases hl w (hBC w hw) with e | ⟨e, rfl⟩
            · rw [e]; exact any_of_anyC hQ f _ _ _ _ _ hBC hw hk
            · rw [e]; exact any_of_anyC hQ f _ _ _ _ _ hBC hw hk
          · exact wp_noexit (fun a' w' ⟨B', C', h2, h3, _, h4⟩ => any_of_anyC hQ f _ _ _ _ _ h3 h2 h4) (ht w hw)
        · rename_i hwd
          simp only [hwd] at h1
          exact any_of_anyC hQ f _ _ _ _ _ hBC hw h1⟩

/-- In state 'a' it leaves 'v' in its slot, in every world of the class. -/
def LeavesV (P : Program) (ops : Array Oper) (C : World → Prop) (o : Oper) (v : Value) (a : Act) : Prop :=
  (Region.wanted o (yielded ops a.tmps) = true ∧ LooksAt P o a C v) ∨ (Region.wanted o (yielded ops a.tmps) = false ∧ v = undef)
theorem LeavesV.of_same {C : World → Prop} {o : Oper} {v : Value} {a a' : Act} (hy : LeavesV P ops C o v a) (he : execOp a'.eval o = execOp a.eval o)
    (hw : Region.wanted o (yielded ops a'.tmps) = Region.wanted o (yielded ops a.tmps)) : LeavesV P ops C o v a' := by
  unfold LeavesV LooksAt at *
  rw [he, hw]
  exact hy
theorem LeavesV.sub {C C' : World → Prop} {o : Oper} {v : Value} {a : Act} (hs : ∀ x, C' x → C x) (hy : LeavesV P ops C o v a) : LeavesV P ops C' o v a :=
  hy.imp (fun ⟨h1, h2⟩ => ⟨h1, fun w hw => h2 w (hs w hw)⟩) id
theorem LeavesV.opC {B C : World → Prop} {i : Nat} {o : Oper} {v : Value} {a : Act} (hi : ops[i]? = some o) (hy : LeavesV P ops B o v a) {K : (World → Prop) → (World → Prop) → Act → Prop} (h : K B C (a.put o.dst v)) : opC P ops B C i K a := by
  unfold Go.Proofs.Ytmkmaeblnnfheaa.opC
  simp only [hi]
  rcases hy with ⟨hw, hv⟩ | ⟨hw, rfl⟩
  · simp only [hw, if_true]; exact .inl ⟨v, hv, h⟩
  · simp only [hw, Bool.false_eq_true, if_false]; exact h

theorem opC_put {B C : World → Prop} {j : Nat} {oi oj : Oper} {v : Value} (hj : ops[j]? = some oj) (hap : oi.apart ops oj = true)
    (hsi : ∀ cs b, oi.op ≠ .select cs b) (hsj : ∀ cs b, oj.op ≠ .select cs b) {K : (World → Prop) → (World → Prop) → Act → Prop} {a : Act}
    (hy : LeavesV P ops B oi v a) (h : opC P ops B C j K (a.put oi.dst v)) :
    opC P ops B C j (fun B' C' a' => LeavesV P ops B' oi v a' ∧ K B' C' (a'.put oi.dst v)) a := by
  obtain ⟨h1, h2, h3⟩ := Oper.apart_spec hap
  have keep : ∀ (B' : World → Prop) (a : Act), LeavesV P ops B' oi v a → ∀ u, LeavesV P ops B' oi v (a.put oj.dst u) := fun B' a hy u =>
    hy.of_same (execOp_put oi hsi a oj.dst u h3) (wanted_put oi a oj.dst u h3)
  have keepD : ∀ (B' : World → Prop), LeavesV P ops B' oi v a → ∀ d, LeavesV P ops B' oi v { a with defers := d :: a.defers } := fun B' hy d => hy.of_same rfl rfl
  unfold opC at *
  simp only [hj] at *
  rw [wanted_put oj a oi.dst v h1] at h
  split
  · rename_i hw
    simp only [hw, if_true] at h
    rcases h with ⟨u, hu, hk⟩ | ht
    · refine .inl ⟨u, fun w hw' => ?_, keep _ a hy u, by rw [← Act.put_comm a v u h2]; exact hk⟩
      have := hu w hw'
      rwa [execOp_put oj hsj a oi.dst v h1] at this
    · refine .inr fun w hw' => ?_
      have h := ht w hw'
      unfold Oper.wp at *
      rw [execOp_put oj hsj a oi.dst v h1] at h
      generalize (execOp a.eval oj).run P w = r at *
      cases r with
      | ok n w' =>
        cases n <;> simp only [Oper.upon] at h ⊢
        case value u =>
          obtain ⟨B', C', c1, c2, c3, c4⟩ := h
          exact ⟨B', C', c1, c2, c3, keep _ a (hy.sub c3) u, by rw [← Act.put_comm a v u h2]; exact c4⟩
        case skip =>
          obtain ⟨B', C', c1, c2, c3, c4⟩ := h
          exact ⟨B', C', c1, c2, c3, keep _ a (hy.sub c3) _, by rw [← Act.put_comm a v undef h2]; exact c4⟩
        case defer d =>
          obtain ⟨B', C', c1, c2, c3, c4⟩ := h
          refine ⟨B', C', c1, c2, c3, keep _ _ (keepD _ (hy.sub c3) d) _, ?_⟩
          rw [← Act.put_comm _ v undef h2, ← Act.put_defers]
          exact c4
        case enter f args =>
          refine Calls.mono h fun e w'' he => ?_
          cases e with
          | returned u =>
            obtain ⟨B', C', c1, c2, c3, c4⟩ := he
            exact ⟨B', C', c1, c2, c3, keep _ a (hy.sub c3) u, by rw [← Act.put_comm a v u h2]; exact c4⟩
          | panicked c => exact he
          | outgrown => exact (he.elim fun _ he => he.elim fun _ he => (he : False).elim)
        case row row args =>
          exact Rows.mono h fun u w'' he => by
            obtain ⟨B', C', c1, c2, c3, c4⟩ := he
            exact ⟨B', C', c1, c2, c3, keep _ a (hy.sub c3) u, by rw [← Act.put_comm a v u h2]; exact c4⟩
      | halt x w' =>
        cases x <;> simp only [Oper.upon] at h ⊢
        exact h
  · rename_i hw
    simp only [hw] at h
    exact ⟨keep _ a hy _, by rw [← Act.put_comm a v undef h2]; exact h⟩

theorem anyC_first {Q : Act → World → Prop} {i : Nat} {oi : Oper} {v : Value} (hi : ops[i]? = some oi) (hsel : ∀ (j : Nat) (o : Oper) cs b, ops[j]? = some o → o.op ≠ .select cs b) :
    ∀ (f : Nat) (listed : Array Bool) (B C : World → Prop) (a : Act), (∀ x, C x → B x) →
      (∀ j oj, ops[j]? = some oj → j ≠ i → listed.getD j true = false → (∀ e ∈ oj.after, Region.binds md e = true → e.on ≠ i) → oi.apart ops oj = true) →
      i ∈ Region.ready md ops listed → LeavesV P ops B oi v a →
      anyC P md ops Q f (listed.setIfInBounds i true) B C (a.put oi.dst v) → anyC P md ops Q (f + 1) listed B C a := by
  intro f
  induction f with
  | zero =>
    intro listed B C a _ _ hr hy H
    refine ⟨fun h => (by rw [h] at hr; cases hr), fun j hj => ?_⟩
    by_cases hji : j = i
    · subst hji; exact hy.opC hi H
    · have := ready_mono hj hji
      rw [H.1] at this
      cases this
  | succ f ih =>
    intro listed B C a hBC hfree hr hy H
    refine ⟨fun h => (by rw [h] at hr; cases hr), fun j hj => ?_⟩
    by_cases hji : j = i
    · subst hji; exact hy.opC hi H
    · have h1 := H.2 j (ready_mono hj hji)
      obtain ⟨hjun, oj, hoj, hall⟩ := mem_ready.1 hj
      have hnot : ∀ e ∈ oj.after, Region.binds md e = true → e.on ≠ i := fun e he hb heq => by
        have h1 := hall e he hb
        have h0 := (mem_ready.1 hr).1
        rw [heq] at h1
        rcases Nat.lt_or_ge i listed.size with h' | h'
        · simp [h'] at h0 h1; rw [h0] at h1; cases h1
        · simp [Array.getElem?_eq_none h'] at h1
      have h2 := opC_put hoj (hfree j oj hoj hji hjun hnot) (fun cs b => hsel i oi cs b hi) (fun cs b => hsel j oj cs b hoj) hy h1
      have hfree' : ∀ k ok, ops[k]? = some ok → k ≠ i → (listed.setIfInBounds j true).getD k true = false →
          (∀ e ∈ ok.after, Region.binds md e = true → e.on ≠ i) → oi.apart ops ok = true := fun k ok hk hki hun hno => by
        refine hfree k ok hk hki ?_ hno
        by_cases hjk : j = k
        · subst hjk; exact hjun
        · rw [getD_set_ne true hjk] at hun; exact hun
      refine opC_mono hBC (fun B' C' a' _ hBC' h3 => ih (listed.setIfInBounds j true) B' C' a' hBC' hfree' (ready_mono hr (Ne.symm hji)) h3.1 ?_) h2
      rw [Array.setIfInBounds_comm _ _ hji]
      exact h3.2

/-! Our order -/

/-- Kinds of operation that enter no function. -/
def plainB (o : Oper) : Bool :=
  match o.op with
  | .move _ | .assign _ | .pick .. | .build .. | .load .. | .binOp .. | .unOp .. | .slice .. | .fieldAddr .. | .field .. | .indexAddr .. | .index .. | .extract .. | .convert .. => true
  | _ => false
theorem run_value_not {s : Sem Value} {w w' : World} {f : FuncId} {args : Array Value} : ((do pure (Next.value (← s)) : Sem Next)).run P w ≠ .ok (.enter f args) w' := by
  rw [Sem.run_bind]
  cases s.run P w with
  | ok v w1 =>
    intro h
    simp [Result.andThen] at h
  | halt x w1 =>
    intro h
    simp [Result.andThen] at h
theorem plain_not {o : Oper} (h : plainB o = true) {ρ : Operand → Value} {w w' : World} {f : FuncId} {args : Array Value} : (execOp ρ o).run P w ≠ .ok (.enter f args) w' := by
  obtain ⟨dst, op, type, pos, after, guard⟩ := o
  unfold plainB at h
  unfold execOp
  cases op <;> first | exact run_value_not | (simp at h; done) | skip
  all_goals
    intro e
    first
    | (simp at e; done)
    | (rw [Sem.run_bind] at e
       generalize (asBool _).run P w = r at e
       cases r <;> simp [Result.andThen] at e)
theorem looks_of_quiet {o : Oper} (h : plainB o = true) {a : Act} {C : World → Prop} {v : Value} (hq : ∀ w, C w → o.quietAt P a C w v) : LooksAt P o a C v := fun w hw => by
  have h1 := hq w hw
  have h2 := fun f args w' => plain_not (P := P) (ρ := a.eval) (w := w) (w' := w') (f := f) (args := args) h
  unfold Oper.quietAt at h1
  generalize (execOp a.eval o).run P w = r at *
  cases r with
  | ok n w' =>
    cases n <;> simp only [Oper.quietUpon] at h1
    case value u => obtain ⟨e1, e2⟩ := h1; rw [e1, e2]; exact .inl rfl
    case skip => obtain ⟨e1, e2⟩ := h1; rw [e1]; exact .inr ⟨rfl, e2⟩
    case enter f args => exact absurd rfl (h2 f args w')
  | halt x w' => simp only [Oper.quietUpon] at h1

/-- The worlds of a class, as letters. -/
structure In (C : World → Prop) where
  w : World
  h : C w
theorem cls_eq {C : World → Prop} : (fun w' => ∃ x : In C, w' = x.w) = C := funext fun w => propext ⟨fun ⟨x, e⟩ => e ▸ x.h, fun h => ⟨⟨w, h⟩, rfl⟩⟩
/-- The operations at these places. -/
def opsAt (l : List Oper) (s : List Nat) : List Oper := s.filterMap (l[·]?)
/-- The walk: stretches of operations that only look, each followed by one that may turn the world. -/
def Seq (P : Program) (l : List Oper) (Q : Act → World → Prop) (t : List Nat) : List (List Nat × Nat) → (World → Prop) → (World → Prop) → Act → Prop
  | [], B, C, a => wpQuiet P l.toArray (fun w' => ∃ x : In B, w' = x.w) (fun a' => ∀ w, C w → Q a' w) (opsAt l t) a
  | (s, c) :: rest, B, C, a => wpQuiet P l.toArray (fun w' => ∃ x : In B, w' = x.w) (fun a' => ∃ o, l[c]? = some o ∧ o.guard = none ∧ Turns P o a' B C (Seq P l Q t rest)) (opsAt l s) a
/-- May these operations be taken first, one after the other? -/
def firstB (md : Region.Mode) (l : List Oper) (listed : Array Bool) : List Nat → Bool × Array Bool
  | [] => (true, listed)
  | i :: s => match firstB md l (listed.setIfInBounds i true) s with
    | (b, k) => ((Region.ready md l.toArray listed).contains i && Region.free md l.toArray listed i && ((l[i]?).map plainB).getD false && b, k)
def seqOk (md : Region.Mode) (l : List Oper) (t : List Nat) : List (List Nat × Nat) → Array Bool → Bool
  | [], listed => match firstB md l listed t with
    | (b, k) => b && (Region.ready md l.toArray k).isEmpty
  | (s, c) :: rest, listed => match firstB md l listed s with
    | (b, k) => b && (Region.ready md l.toArray k == [c]) && seqOk md l t rest (k.setIfInBounds c true)

theorem first_lex {l : List Oper} {Q : Act → World → Prop} (hsel : Region.noSelect l.toArray = true) {B C : World → Prop} (hBC : ∀ x, C x → B x) {K : Act → Prop} {g : Nat} :
    ∀ (s : List Nat) (listed : Array Bool) (a : Act), (firstB md l listed s).1 = true →
      (∀ a', K a' → anyC P md l.toArray Q g (firstB md l listed s).2 B C a') → wpQuiet P l.toArray B K (opsAt l s) a → anyC P md l.toArray Q (s.length + g) listed B C a
  | [], listed, a, _, hK, h => by
    rw [List.length_nil, Nat.zero_add]
    exact hK a h
  | i :: s, listed, a, hB, hK, h => by
    have hB' := hB
    unfold firstB at hB hK
    dsimp only at hB hK
    simp only [Bool.and_eq_true] at hB
    obtain ⟨⟨⟨h1, h2⟩, h3⟩, h4⟩ := hB
    cases ho : l[i]? with
    | none => rw [ho] at h3; cases h3
    | some o =>
      rw [ho] at h3
      have hoa : l.toArray[i]? = some o := by simpa using ho
      have e : opsAt l (i :: s) = o :: opsAt l s := by unfold opsAt; rw [List.filterMap_cons]; simp [ho]
      rw [e] at h
      rw [List.length_cons, Nat.succ_add]
      have hlex : ∃ v, LeavesV P l.toArray B o v a ∧ wpQuiet P l.toArray B K (opsAt l s) (a.put o.dst v) := by
        change (if Region.wanted o (yielded l.toArray a.tmps) then o.quiet P a B (wpQuiet P l.toArray B K (opsAt l s)) else wpQuiet P l.toArray B K (opsAt l s) (a.put o.dst undef)) at h
        by_cases hw : Region.wanted o (yielded l.toArray a.tmps) = true
        · rw [if_pos hw] at h
          obtain ⟨v, hv, hk⟩ := h
          exact ⟨v, .inl ⟨hw, looks_of_quiet (by simpa using h3) hv⟩, hk⟩
        · rw [if_neg hw] at h
          exact ⟨undef, .inr ⟨by simpa using hw, rfl⟩, h⟩
      obtain ⟨v, hv, hk⟩ := hlex
      exact anyC_first hoa (Region.noSelect_spec hsel) _ listed B C a hBC (Region.free_spec hoa h2) (by simpa using h1) hv
        (first_lex hsel hBC s (listed.setIfInBounds i true) _ h4 hK hk)

def seqLen (t : List Nat) : List (List Nat × Nat) → Nat
  | [] => t.length
  | (s, _) :: rest => s.length + (seqLen t rest + 1)
theorem seq_any {l : List Oper} {Q : Act → World → Prop} {t : List Nat} (hsel : Region.noSelect l.toArray = true) :
    ∀ (segs : List (List Nat × Nat)) (listed : Array Bool) (B C : World → Prop) (a : Act), (∀ x, C x → B x) → seqOk md l t segs listed = true → Seq P l Q t segs B C a → anyC P md l.toArray Q (seqLen t segs) listed B C a
  | [], listed, B, C, a, hBC, hB, h => by
    unfold seqOk at hB
    dsimp only at hB
    simp only [Bool.and_eq_true, List.isEmpty_iff] at hB
    unfold Seq at h
    rw [cls_eq] at h
    exact first_lex (g := 0) hsel hBC t listed a hB.1 (fun a' hk => ⟨hB.2, hk⟩) h
  | (s, c) :: rest, listed, B, C, a, hBC, hB, h => by
    unfold seqOk at hB
    dsimp only at hB
    simp only [Bool.and_eq_true, beq_iff_eq] at hB
    obtain ⟨⟨h1, h2⟩, h3⟩ := hB
    unfold Seq at h
    rw [cls_eq] at h
    refine first_lex (g := seqLen t rest + 1) hsel hBC s listed a h1 (fun a' ⟨o, ho, hg, ht⟩ => ?_) h
    refine ⟨fun h0 => (by rw [h2] at h0; cases h0), fun i hi => ?_⟩
    rw [h2] at hi
    obtain rfl : i = c := by simpa using hi
    unfold opC
    have hoa : l.toArray[i]? = some o := by simpa using ho
    simp only [hoa]
    have hw : Region.wanted o (yielded l.toArray a'.tmps) = true := by unfold Region.wanted; rw [hg]
    simp only [hw, if_true]
    exact .inr (Turns.mono (fun B' C' a'' _ hBC' hk => seq_any hsel rest _ B' C' a'' hBC' h3 hk) ht)
end

/-- The rule. -/
theorem wp_region_seq {P : Program} {l : List Oper} {id : Nat} {Q : Exit → Act → World → Prop} {a : Act} {W : World} (B C : World → Prop) (segs : List (List Nat × Nat)) (t : List Nat)
    (hm : P.follows .mixedOrders = true) (hB : (Region.noSelect l.toArray && seqOk .any l t segs (Array.replicate l.length false) && (seqLen t segs == l.length)) = true) (hBC : ∀ x, C x → B x) (hC : ∀ n, C { W with drawn := n })
    (h : Seq P l (fun a' w' => Q .normal a' w') t segs B C a) : (Code.region id l.toArray true).wp P Q a W := by
  simp only [Bool.and_eq_true, beq_iff_eq] at hB
  obtain ⟨⟨h1, h2⟩, h3⟩ := hB
  refine wp_region_any hm ?_
  have := any_of_anyC (Q' := Q) (fun _ _ hq => hq) _ _ B C a _ hBC (hC (W.drawn + 1)) (seq_any h1 segs _ B C a hBC h2 h)
  rw [h3] at this
  simpa using this

/-- One class for both. -/
theorem wp_region_cls {P : Program} {l : List Oper} {id : Nat} {Q : Exit → Act → World → Prop} {a : Act} {W : World} (C : World → Prop) (segs : List (List Nat × Nat)) (t : List Nat)
    (hm : P.follows .mixedOrders = true) (hB : (Region.noSelect l.toArray && seqOk .any l t segs (Array.replicate l.length false) && (seqLen t segs == l.length)) = true) (hC : ∀ n, C { W with drawn := n })
    (h : Seq P l (fun a' w' => Q .normal a' w') t segs C C a) : (Code.region id l.toArray true).wp P Q a W := wp_region_seq C C segs t hm hB (fun _ hx => hx) hC h
theorem turns_step {P : Program} {o : Oper} {a : Act} {C : World → Prop} {K : (World → Prop) → (World → Prop) → Act → Prop}
    (h : ∀ Z : Act → World → Prop, (∀ (C' : World → Prop) a' w', C' w' → (∀ x, C' x → C x) → K C' C' a' → Z a' w') → ∀ w, C w → o.wp P a w Z NoExit) : Turns P o a C C K :=
  fun w hw => h _ (fun C' _ _ h1 h2 h3 => ⟨C', C', h1, fun _ hx => hx, h2, h3⟩) w hw
theorem turns_step2 {P : Program} {o : Oper} {a : Act} {B C : World → Prop} {K : (World → Prop) → (World → Prop) → Act → Prop}
    (h : ∀ Z : Act → World → Prop, (∀ (B' C' : World → Prop) a' w', C' w' → (∀ x, C' x → B' x) → (∀ x, B' x → B x) → K B' C' a' → Z a' w') → ∀ w, C w → o.wp P a w Z NoExit) : Turns P o a B C K :=
  fun w hw => h _ (fun B' C' _ _ h1 h2 h3 h4 => ⟨B', C', h1, h2, h3, h4⟩) w hw
theorem seq_last {C : World → Prop} {Q : Act → World → Prop} {a : Act} (h : ∀ w, C w → Q a w) : ∀ w, C w → Q a w := h

end Go.Proofs.Ytmkmaeblnnfheaa
