/- A stream is copied; the last position of a part; both sides. -/
import Derived.Test.YtmkmaeblnnfheabSndA
import Derived.Test.YtmkmaeblnnfheabRngD
import Derived.Deep.RegionHeld3
namespace Go.Proofs.Ytmkmaeblnnfheab
open Go.RowKit
attribute [local irreducible] Go.wpQuiet

theorem RngIn.setLow {w : World} {B S : Nat} {A : Option Addr} {n c : Nat} {L : List Rg} (h : RngIn w B S A n c L) {p : Addr} (hp : p.block < B) (u : Value) : RngIn (w.setCell p u) B S A n c L :=
  h.touch (((Touch.refl w p.block (p.block + 1)).setCell (Nat.le_refl _) (Nat.lt_succ_self _) u)) (.inr hp)
theorem RngIn.none_cap {w : World} {B S : Nat} {A : Option Addr} {n c : Nat} {L : List Rg} (h : RngIn w B S A n c L) (e : A = none) : c = 0 := by
  rcases h.2.2 with h0 | ⟨_, g, e', _⟩
  · exact h0.2
  · rw [e] at e'; cases e'
theorem Touch.of_below2 {w w' : World} {B : Nat} (h : Below B w w') : Touch w w' B w'.heap.size := ⟨h.os, h.tape, h.output, h.size, fun k hk hb => by
  rcases hb with e | e
  · exact h.block k e
  · exact absurd (Nat.lt_of_lt_of_le hk h.size) (by omega)⟩
/-- Two slices that hold something lie in different blocks. -/
def Apart (A : Option Addr) (na : Nat) (B : Option Addr) (nb : Nat) : Prop := 0 < na → 0 < nb → ∀ x y, A = some x → B = some y → x.block ≠ y.block
theorem apart_of {w : World} {B S B' S' : Nat} {A A' : Option Addr} {n c n' c' : Nat} {L L' : List Rg} (h : RngIn w B S A n c L) (h' : RngIn w B' S' A' n' c' L') (hd : S ≤ B' ∨ S' ≤ B) : Apart A n A' n' := by
  intro h0 h1 x y ex ey
  obtain ⟨g, e, g1, g2, _⟩ := h.at_ h0
  obtain ⟨g', e', g1', g2', _⟩ := h'.at_ h1
  rw [ex] at e
  rw [ey] at e'
  cases e
  cases e'
  show g ≠ g'
  omega
/-- A stream in new memory. -/
def GotSd (w : World) (s : Sd) (v : Value) (w' : World) : Prop :=
  ∃ A ca B cb, v = .agg #[.string s.d, .bool s.f, .int .i64 s.l, .int .i64 s.n, .slice A s.A.length ca, .slice B s.L.length cb] ∧ RngIn w' w.heap.size w'.heap.size A s.A.length ca s.A ∧ RngIn w' w.heap.size w'.heap.size B s.L.length cb s.L ∧ Apart A s.A.length B s.L.length

theorem last_i (o : Int) (d : ByteArray) (f : Bool) (w : World) (ho : -1000000 ≤ o ∧ o ≤ 1000000) (hd : d.size ≤ 1000000) :
    Calls Try.prog 52 #[.agg #[.int .i64 o, .string d, .bool f]] w fun e w' => e = .returned (.int .i64 (Pt.last ⟨o, d, f⟩)) ∧ ∃ x, w' = w.alloc x := by
  cases f
  all_goals
    go_enter Try.func52, Try.ntmps52
    go_wp2_with fail
    go_ret
    exact ⟨ret_int (by simp [Pt.last]), _, rfl⟩
theorem last_s (o : Int) (d : ByteArray) (f : Bool) (w : World) (ho : -1000000 ≤ o ∧ o ≤ 1000000) (hd : d.size ≤ 1000000) :
    Calls Try.prog 79 #[.agg #[.int .i64 o, .string d, .bool f]] w fun e w' => e = .returned (.int .i64 (Pt.last ⟨o, d, f⟩)) ∧ ∃ x, w' = w.alloc x := by
  cases f
  all_goals
    go_enter Try.func79, Try.ntmps79
    go_wp2_with fail
    go_ret
    exact ⟨ret_int (by simp [Pt.last]), _, rfl⟩

theorem own_lit (W : World) {q : Nat} (hq : W.heap.size = q) : (W.alloc (.cells #[] 51)).ownsRow q 51 2 (.slice (some ⟨q, 0, none⟩) 0 0) 0 [] := hq ▸ World.ownsRow_lit W #[] 0 (Nat.le_refl _) (Nat.zero_le _) rfl
/-- A struct of this kind that may be written. -/
def Own6 (w : World) (b : Nat) (d : ByteArray) (f : Bool) (l n : Int) (A : Option Addr) (na ca : Nat) (B : Option Addr) (nb cb : Nat) : Prop := Box w b d f l n A na ca B nb cb ∧ ∀ j, w.frozen? ⟨b, j, none⟩ = false
section
variable {w w' : World} {b : Nat} {d : ByteArray} {f : Bool} {l n : Int} {A : Option Addr} {na ca : Nat} {B : Option Addr} {nb cb : Nat}
theorem Own6.under (h : Own6 w b d f l n A na ca B nb cb) {q : Nat} (hb : Below q w w') (hq : b < q) : Own6 w' b d f l n A na ca B nb cb :=
  ⟨h.1.of_cells fun j => hb.cell (p := ⟨b, j, none⟩) hq, fun j => (hb.frozen (p := ⟨b, j, none⟩) hq).trans (h.2 j)⟩
theorem Own6.alloc (h : Own6 w b d f l n A na ca B nb cb) (o : Obj) : Own6 (w.alloc o) b d f l n A na ca B nb cb := h.under ((Below.refl w.heap.size w).alloc (Nat.le_refl _) o) h.1.lt
theorem Own6.new (w : World) : Own6 (w.alloc (.cells #[.string d, .bool f, .int .i64 l, .int .i64 n, .slice A na ca, .slice B nb cb] 25)) w.heap.size d f l n A na ca B nb cb := by
  refine ⟨Box.new w, fun j => ?_⟩
  simp
theorem cell_set (w : World) (b j : Nat) (v u : Value) (h : w.cell? ⟨b, j, none⟩ = some u) (k : Nat) : (w.setCell ⟨b, j, none⟩ v).cell? ⟨b, k, none⟩ = if k = j then some v else w.cell? ⟨b, k, none⟩ := by
  split
  · rename_i e
    subst e
    exact World.cell?_setCell_same w ⟨b, k, none⟩ v h
  · rename_i e
    exact World.cell?_setCell_other w ⟨b, j, none⟩ ⟨b, k, none⟩ v (by intro x; injection x with x1 x2; exact e x2.symm)
theorem Own6.set0 (h : Own6 w b d f l n A na ca B nb cb) (d' : ByteArray) : Own6 (w.setCell ⟨b, 0, none⟩ (.string d')) b d' f l n A na ca B nb cb := by
  obtain ⟨⟨h0, h1, h2, h3, h4, h5⟩, hf⟩ := h
  exact ⟨⟨cell_set w b 0 _ _ h0 0, (cell_set w b 0 _ _ h0 1).trans h1, (cell_set w b 0 _ _ h0 2).trans h2, (cell_set w b 0 _ _ h0 3).trans h3, (cell_set w b 0 _ _ h0 4).trans h4, (cell_set w b 0 _ _ h0 5).trans h5⟩, fun j => (World.frozen?_setCell _ _ _ _).trans (hf j)⟩
theorem Own6.set1 (h : Own6 w b d f l n A na ca B nb cb) (f' : Bool) : Own6 (w.setCell ⟨b, 1, none⟩ (.bool f')) b d f' l n A na ca B nb cb := by
  obtain ⟨⟨h0, h1, h2, h3, h4, h5⟩, hf⟩ := h
  exact ⟨⟨(cell_set w b 1 _ _ h1 0).trans h0, cell_set w b 1 _ _ h1 1, (cell_set w b 1 _ _ h1 2).trans h2, (cell_set w b 1 _ _ h1 3).trans h3, (cell_set w b 1 _ _ h1 4).trans h4, (cell_set w b 1 _ _ h1 5).trans h5⟩, fun j => (World.frozen?_setCell _ _ _ _).trans (hf j)⟩
theorem Own6.set2 (h : Own6 w b d f l n A na ca B nb cb) (l' : Int) : Own6 (w.setCell ⟨b, 2, none⟩ (.int .i64 l')) b d f l' n A na ca B nb cb := by
  obtain ⟨⟨h0, h1, h2, h3, h4, h5⟩, hf⟩ := h
  exact ⟨⟨(cell_set w b 2 _ _ h2 0).trans h0, (cell_set w b 2 _ _ h2 1).trans h1, cell_set w b 2 _ _ h2 2, (cell_set w b 2 _ _ h2 3).trans h3, (cell_set w b 2 _ _ h2 4).trans h4, (cell_set w b 2 _ _ h2 5).trans h5⟩, fun j => (World.frozen?_setCell _ _ _ _).trans (hf j)⟩
theorem Own6.set3 (h : Own6 w b d f l n A na ca B nb cb) (n' : Int) : Own6 (w.setCell ⟨b, 3, none⟩ (.int .i64 n')) b d f l n' A na ca B nb cb := by
  obtain ⟨⟨h0, h1, h2, h3, h4, h5⟩, hf⟩ := h
  exact ⟨⟨(cell_set w b 3 _ _ h3 0).trans h0, (cell_set w b 3 _ _ h3 1).trans h1, (cell_set w b 3 _ _ h3 2).trans h2, cell_set w b 3 _ _ h3 3, (cell_set w b 3 _ _ h3 4).trans h4, (cell_set w b 3 _ _ h3 5).trans h5⟩, fun j => (World.frozen?_setCell _ _ _ _).trans (hf j)⟩
theorem Own6.set4 (h : Own6 w b d f l n A na ca B nb cb) (A' : Option Addr) (na' ca' : Nat) : Own6 (w.setCell ⟨b, 4, none⟩ (.slice A' na' ca')) b d f l n A' na' ca' B nb cb := by
  obtain ⟨⟨h0, h1, h2, h3, h4, h5⟩, hf⟩ := h
  exact ⟨⟨(cell_set w b 4 _ _ h4 0).trans h0, (cell_set w b 4 _ _ h4 1).trans h1, (cell_set w b 4 _ _ h4 2).trans h2, (cell_set w b 4 _ _ h4 3).trans h3, cell_set w b 4 _ _ h4 4, (cell_set w b 4 _ _ h4 5).trans h5⟩, fun j => (World.frozen?_setCell _ _ _ _).trans (hf j)⟩
theorem Own6.set5 (h : Own6 w b d f l n A na ca B nb cb) (A' : Option Addr) (na' ca' : Nat) : Own6 (w.setCell ⟨b, 5, none⟩ (.slice A' na' ca')) b d f l n A na ca A' na' ca' := by
  obtain ⟨⟨h0, h1, h2, h3, h4, h5⟩, hf⟩ := h
  exact ⟨⟨(cell_set w b 5 _ _ h5 0).trans h0, (cell_set w b 5 _ _ h5 1).trans h1, (cell_set w b 5 _ _ h5 2).trans h2, (cell_set w b 5 _ _ h5 3).trans h3, (cell_set w b 5 _ _ h5 4).trans h4, cell_set w b 5 _ _ h5 5⟩, fun j => (World.frozen?_setCell _ _ _ _).trans (hf j)⟩
theorem Own6.other (h : Own6 w b d f l n A na ca B nb cb) {p : Addr} (hp : p.block ≠ b) (u : Value) : Own6 (w.setCell p u) b d f l n A na ca B nb cb := by
  have e : (w.setCell p u).heap[b]? = w.heap[b]? := Below.heap_setCell w p u b (fun e => hp e.symm)
  exact ⟨h.1.of_cells fun j => World.cell?_of_block (w := w) (a := ⟨b, j, none⟩) e, fun j => (World.frozen?_of_block (w := w) (a := ⟨b, j, none⟩) e).trans (h.2 j)⟩
theorem Own6.setAll (h : Own6 w b d f l n A na ca B nb cb) (d' : ByteArray) (f' : Bool) (l' n' : Int) (A' : Option Addr) (na' ca' : Nat) (B' : Option Addr) (nb' cb' : Nat) :
    Own6 ((((((w.setCell ⟨b, 0, none⟩ (.string d')).setCell ⟨b, 1, none⟩ (.bool f')).setCell ⟨b, 2, none⟩ (.int .i64 l')).setCell ⟨b, 3, none⟩ (.int .i64 n')).setCell ⟨b, 4, none⟩ (.slice A' na' ca')).setCell ⟨b, 5, none⟩ (.slice B' nb' cb')) b d' f' l' n' A' na' ca' B' nb' cb' :=
  (((((h.set0 d').set1 f').set2 l').set3 n').set4 A' na' ca').set5 B' nb' cb'
theorem results_snd {fn : Func} {t : Tmp} (h : fn.results = #[.cell t 25]) {tmps : Array Value} (hp : tmps.getD t undef = .pointer (some ⟨b, 0, none⟩)) (hx : Box w b d f l n A na ca B nb cb) :
    (results fn tmps).run Try.prog w = .ok (.agg #[.string d, .bool f, .int .i64 l, .int .i64 n, .slice A na ca, .slice B nb cb]) w := by
  obtain ⟨h0, h1, h2, h3, h4, h5⟩ := hx
  have hp' : tmps[t]?.getD undef = .pointer (some ⟨b, 0, none⟩) := by simpa using hp
  simp [results, h, hp', go_sem, h0, h1, h2, h3, h4, h5]
end
set_option maxRecDepth 100000 in
set_option maxHeartbeats 4000000 in
theorem copy_s (d : ByteArray) (f : Bool) (l n : Int) (LA LB : List Rg) (A : Option Addr) (ca : Nat) (B : Option Addr) (cb : Nat) (w : World) (hA : RngAt w A LA.length LA) (hB : RngAt w B LB.length LB) (eA : A = none → ca = 0) (eB : B = none → cb = 0) (hn : LA.length ≤ 2000000) (hn' : LB.length ≤ 2000000) :
    Calls Try.prog 69 #[.agg #[.string d, .bool f, .int .i64 l, .int .i64 n, .slice A LA.length ca, .slice B LB.length cb]] w fun e w' => (∃ v, e = .returned v ∧ GotSd w ⟨d, f, l, n, LA, LB⟩ v w') ∧ Below w.heap.size w w' := by
  generalize hNA : LA.length = na at *
  generalize hNB : LB.length = nb at *
  have HNA := hid_of hNA
  have HNB := hid_of hNB
  clear hNA hNB
  have z := ((Own6.new (d := d) (f := f) (l := l) (n := n) (A := A) (na := na) (ca := ca) (B := B) (nb := nb) (cb := cb) w).alloc (.cells #[.string ByteArray.empty, .bool false, .int .i64 0, .int .i64 0, .slice none 0 0, .slice none 0 0] 25)).alloc (.cells #[] 51)
  have r := (Own6.new (d := ByteArray.empty) (f := false) (l := 0) (n := 0) (A := none) (na := 0) (ca := 0) (B := none) (nb := 0) (cb := 0) (w.alloc (.cells #[.string d, .bool f, .int .i64 l, .int .i64 n, .slice A na ca, .slice B nb cb] 25))).alloc (.cells #[] 51)
  rw [show (w.alloc (.cells #[.string d, .bool f, .int .i64 l, .int .i64 n, .slice A na ca, .slice B nb cb] 25)).heap.size = w.heap.size + 1 from by simp] at r
  go_enter Try.func69, Try.ntmps69
  go_wp2_with (first
    | (at_builtin; refine wpList_copy_rng _ rfl _ _ rfl (base := w.heap.size + 1 + 1) (g := w.heap.size + 1 + 1) (A := A) (c := ca) (L := LA) rfl (own_lit _ (by simp)) (by simp) rfl (((hA.alloc _).alloc _).alloc _) eA hn ?_; intro A1 c1 w1 hI1 hg1; have hb1 := below_grown_new ((Below.refl (w.heap.size + 1 + 1) _).alloc (by simp) (.cells #[] 51)) (by simp) hg1 (Nat.le_refl _); have z1 := z.under (q := w.heap.size + 1 + 1) (below_grown_new (Below.refl _ _) (by simp) hg1 (Nat.le_refl _)) (by omega); have r1 := r.under (q := w.heap.size + 1 + 1) (below_grown_new (Below.refl _ _) (by simp) hg1 (Nat.le_refl _)) (by omega); have hw1 : Below w.heap.size w w1 := ((Below.refl _ w).alloc (Nat.le_refl _) _).trans ((((Below.refl _ _).alloc (Nat.le_refl _) _).trans (hb1.mono (by simp))).mono (by simp)); have Z1 := hid_of z1; have R1 := hid_of r1; obtain ⟨⟨z10, z11, z12, z13, z14, z15⟩, z1f⟩ := z1; obtain ⟨⟨r10, r11, r12, r13, r14, r15⟩, r1f⟩ := r1; have hs1 := hw1.size; have hs0 : w.heap.size + 1 + 1 + 1 ≤ w1.heap.size := (by have := hg1.size; simpa using this); have lt1 : w.heap.size < w1.heap.size := (by omega); have lt2 : w.heap.size + 1 < w1.heap.size := (by omega); clear hg1 hb1 z r)
    | (at_builtin; refine wpList_copy_rng _ rfl _ _ rfl (base := w1.heap.size) (g := w1.heap.size) (A := B) (c := cb) (L := LB) rfl (own_lit _ (by simp [World.setCell])) (by simp [World.setCell]) rfl (hB.below ((hw1.setCell (by simp) _).alloc (by simp [World.setCell]; omega) _)) eB hn' ?_; intro B1 c2 w2 hI2 hg2; have hb2 := below_grown_new (Below.refl w1.heap.size _) (by simp [World.setCell]) hg2 (Nat.le_refl _); have Z2 := hid_of (((Z1.out.set4 A1 na c1).alloc (.cells #[] 51)).under hb2 (by omega)); have R2 := hid_of (((R1.out.other (p := ⟨w.heap.size, 4, none⟩) (by simp) (.slice A1 na c1)).alloc (.cells #[] 51)).under hb2 (by omega)); obtain ⟨⟨z20, z21, z22, z23, z24, z25⟩, z2f⟩ := Z2.out; obtain ⟨⟨r20, r21, r22, r23, r24, r25⟩, r2f⟩ := R2.out; have hw2 : Below w.heap.size w w2 := ((hw1.setCell (p := ⟨w.heap.size, 4, none⟩) (Nat.le_refl _) (.slice A1 na c1)).alloc (by simp [World.setCell]; omega) (.cells #[] 51)).trans (hb2.mono hs1); have hI1' : RngIn w2 (w.heap.size + 1 + 1) w1.heap.size A1 na c1 LA := (((hI1.setLow (p := ⟨w.heap.size, 4, none⟩) (by simp; omega) (.slice A1 na c1)).alloc (.cells #[] 51)).touch (Touch.of_below2 hb2) (.inl (Nat.le_refl _))); have hs2 : w1.heap.size + 1 ≤ w2.heap.size := (by have := hb2.size; simpa [World.setCell] using this); have lt3 : w.heap.size < w2.heap.size := (by omega); have lt4 : w.heap.size + 1 < w2.heap.size := (by omega); clear hg2 hb2 hI1))
  try simp only [Exit.inBlock, Exit.then]
  refine bodyPost_ret (results_snd rfl rfl ((R2.out.other (by simp) _).setAll d f l n A1 na c1 B1 nb c2).1) rfl ?_
  refine ⟨⟨_, rfl, A1, c1, B1, c2, ?_, ?_, ?_, ?_⟩, ?_⟩
  · show _ = Value.agg #[.string d, .bool f, .int .i64 l, .int .i64 n, .slice A1 LA.length c1, .slice B1 LB.length c2]
    rw [HNA.out, HNB.out]
  · show RngIn _ w.heap.size _ A1 LA.length c1 LA
    rw [HNA.out]
    refine RngIn.mono (B := w.heap.size + 1 + 1) (S := w1.heap.size) ?_ (by omega) (by simp [World.setCell]; omega)
    repeat refine RngIn.setLow ?_ (by dsimp only; omega) _
    exact hI1'
  · show RngIn _ w.heap.size _ B1 LB.length c2 LB
    rw [HNB.out]
    refine RngIn.mono (B := w1.heap.size) (S := w2.heap.size) ?_ (by omega) (by simp [World.setCell])
    repeat refine RngIn.setLow ?_ (by dsimp only; omega) _
    exact hI2
  · show Apart A1 LA.length B1 LB.length
    rw [HNA.out, HNB.out]
    exact apart_of hI1' hI2 (.inl (Nat.le_refl _))
  · repeat refine Below.setCell ?_ (by dsimp only; omega) _
    exact hw2

set_option maxRecDepth 100000 in
set_option maxHeartbeats 4000000 in
theorem copy_i (d : ByteArray) (f : Bool) (l n : Int) (LA LB : List Rg) (A : Option Addr) (ca : Nat) (B : Option Addr) (cb : Nat) (w : World) (hA : RngAt w A LA.length LA) (hB : RngAt w B LB.length LB) (eA : A = none → ca = 0) (eB : B = none → cb = 0) (hn : LA.length ≤ 2000000) (hn' : LB.length ≤ 2000000) :
    Calls Try.prog 49 #[.agg #[.string d, .bool f, .int .i64 l, .int .i64 n, .slice A LA.length ca, .slice B LB.length cb]] w fun e w' => (∃ v, e = .returned v ∧ GotSd w ⟨d, f, l, n, LA, LB⟩ v w') ∧ Below w.heap.size w w' := by
  have z := ((Own6.new (d := d) (f := f) (l := l) (n := n) (A := A) (na := LA.length) (ca := ca) (B := B) (nb := LB.length) (cb := cb) w).alloc (.cells #[.string ByteArray.empty, .bool false, .int .i64 0, .int .i64 0, .slice none 0 0, .slice none 0 0] 25))
  have r := (Own6.new (d := ByteArray.empty) (f := false) (l := 0) (n := 0) (A := none) (na := 0) (ca := 0) (B := none) (nb := 0) (cb := 0) (w.alloc (.cells #[.string d, .bool f, .int .i64 l, .int .i64 n, .slice A LA.length ca, .slice B LB.length cb] 25)))
  rw [show (w.alloc (.cells #[.string d, .bool f, .int .i64 l, .int .i64 n, .slice A LA.length ca, .slice B LB.length cb] 25)).heap.size = w.heap.size + 1 from by simp] at r
  have hA0 := (hA.alloc (.cells #[.string d, .bool f, .int .i64 l, .int .i64 n, .slice A LA.length ca, .slice B LB.length cb] 25)).alloc (.cells #[.string ByteArray.empty, .bool false, .int .i64 0, .int .i64 0, .slice none 0 0, .slice none 0 0] 25)
  have hB0 := (hB.alloc (.cells #[.string d, .bool f, .int .i64 l, .int .i64 n, .slice A LA.length ca, .slice B LB.length cb] 25)).alloc (.cells #[.string ByteArray.empty, .bool false, .int .i64 0, .int .i64 0, .slice none 0 0, .slice none 0 0] 25)
  have hW0 : Below w.heap.size w _ := ((Below.refl _ w).alloc (Nat.le_refl _) (.cells #[.string d, .bool f, .int .i64 l, .int .i64 n, .slice A LA.length ca, .slice B LB.length cb] 25)).alloc (by simp) (.cells #[.string ByteArray.empty, .bool false, .int .i64 0, .int .i64 0, .slice none 0 0, .slice none 0 0] 25)
  have hsz : ((w.alloc (.cells #[.string d, .bool f, .int .i64 l, .int .i64 n, .slice A LA.length ca, .slice B LB.length cb] 25)).alloc (.cells #[.string ByteArray.empty, .bool false, .int .i64 0, .int .i64 0, .slice none 0 0, .slice none 0 0] 25)).heap.size = w.heap.size + 1 + 1 := by simp
  go_enter Try.func49, Try.ntmps49
  go_wp2_with fail
  generalize hW : World.alloc (World.alloc w _) _ = W
  have hz : Own6 W w.heap.size d f l n A LA.length ca B LB.length cb := by rw [← hW]; exact z
  have hr : Own6 W (w.heap.size + 1) ByteArray.empty false 0 0 none 0 0 none 0 0 := by rw [← hW]; exact r
  have hA1 : RngAt W A LA.length LA := by rw [← hW]; exact hA0
  have hB1 : RngAt W B LB.length LB := by rw [← hW]; exact hB0
  have hw0 : Below w.heap.size w W := by rw [← hW]; exact hW0
  have hsW : W.heap.size = w.heap.size + 1 + 1 := by rw [← hW]; exact hsz
  clear hW z r hA0 hB0 hW0 hsz
  have HZ := hid_of hz
  have HR := hid_of hr
  obtain ⟨⟨z0, z1, z2, z3, z4, z5⟩, zf⟩ := hz
  obtain ⟨⟨r0, r1, r2, r3, r4, r5⟩, rf⟩ := hr
  go_region_with (first
    | (go_at_call_of 75 (Value.slice A LA.length ca); (with_reducible refine (clone_any A ca LA _ (by first | exact hA1 | exact hA1.drew) eA hn).mono ?_); rintro e w1 ⟨A1, c1, rfl, hI1, hb1⟩; have hb1 : Below W.heap.size W w1 := ⟨hb1.os, hb1.tape, hb1.output, hb1.size, hb1.block⟩; have hI1 : RngIn w1 W.heap.size w1.heap.size A1 LA.length c1 LA := hI1; have HZ1 := hid_of (HZ.out.under hb1 (by omega)); have HR1 := hid_of (HR.out.under hb1 (by omega)); obtain ⟨⟨z0, z1, z2, z3, z4, z5⟩, zf⟩ := HZ1.out; obtain ⟨⟨r0, r1, r2, r3, r4, r5⟩, rf⟩ := HR1.out; have hs1 := hb1.size; have hB1 := hB1.below hb1)
    | (go_at_call_of 75 (Value.slice B LB.length cb); (with_reducible refine (clone_any B cb LB _ hB1 eB hn').mono ?_); rintro e w2 ⟨B1, c2, rfl, hI2, hb2⟩; have HZ2 := hid_of (HZ1.out.under hb2 (by omega)); have HR2 := hid_of (HR1.out.under hb2 (by omega)); obtain ⟨⟨z0, z1, z2, z3, z4, z5⟩, zf⟩ := HZ2.out; obtain ⟨⟨r0, r1, r2, r3, r4, r5⟩, rf⟩ := HR2.out; have hI1 := hI1.below hb2; have hs2 := hb2.size; have hw2 := hw0.trans ((hb1.trans (hb2.mono hs1)).mono hw0.size)))
  all_goals go_wp2_with fail
  all_goals
    try simp only [Exit.inBlock, Exit.then]
    refine bodyPost_ret (results_snd rfl rfl (((HR2.out.other (by simp) _).other (by simp) _).setAll d f l n A1 LA.length c1 B1 LB.length c2).1) rfl ?_
    refine ⟨⟨_, rfl, A1, c1, B1, c2, rfl, ?_, ?_, ?_⟩, ?_⟩
    · refine RngIn.mono (B := W.heap.size) (S := w1.heap.size) ?_ (by omega) (by simp [World.setCell]; omega)
      repeat refine RngIn.setLow ?_ (by dsimp only; omega) _
      exact hI1
    · refine RngIn.mono (B := w1.heap.size) (S := w2.heap.size) ?_ (by omega) (by simp [World.setCell])
      repeat refine RngIn.setLow ?_ (by dsimp only; omega) _
      exact hI2
    · exact apart_of hI1 hI2 (.inl (Nat.le_refl _))
    · repeat refine Below.setCell ?_ (by dsimp only; omega) _
      exact hw2

end Go.Proofs.Ytmkmaeblnnfheab
