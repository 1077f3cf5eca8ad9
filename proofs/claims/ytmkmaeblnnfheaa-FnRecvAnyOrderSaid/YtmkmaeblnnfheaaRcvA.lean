/- The receiving side in memory: four cells; a piece: two. The ends of a piece and of a receiving side, what is ready. -/
import Derived.Test.YtmkmaeblnnfheaaRcvPlain
import Derived.Test.YtmkmaeblnnfheaaMg2
import Derived.Test.YtmkmaeblnnfheaaMg1
namespace Go.Proofs.Ytmkmaeblnnfheaa
open Go.RowKit
attribute [local irreducible] Go.wpQuiet

def Box4 (w : World) (b : Nat) (R : Int) (A : Option Addr) (n c : Nat) (F l : Int) : Prop :=
  w.cell? ⟨b, 0, none⟩ = some (.int .i64 R) ∧ w.cell? ⟨b, 1, none⟩ = some (.slice A n c) ∧ w.cell? ⟨b, 2, none⟩ = some (.int .i64 F) ∧ w.cell? ⟨b, 3, none⟩ = some (.int .i64 l)
def Own4 (w : World) (b : Nat) (R : Int) (A : Option Addr) (n c : Nat) (F l : Int) : Prop := Box4 w b R A n c F l ∧ ∀ j, w.frozen? ⟨b, j, none⟩ = false
def Own2 (w : World) (b : Nat) (o : Int) (d : ByteArray) : Prop := (w.cell? ⟨b, 0, none⟩ = some (.int .i64 o) ∧ w.cell? ⟨b, 1, none⟩ = some (.string d)) ∧ ∀ j, w.frozen? ⟨b, j, none⟩ = false
section
variable {w w' : World} {b : Nat} {R : Int} {A : Option Addr} {n c : Nat} {F l : Int} {o : Int} {d : ByteArray}
theorem Box4.of_cells (h : ∀ j, w'.cell? ⟨b, j, none⟩ = w.cell? ⟨b, j, none⟩) (x : Box4 w b R A n c F l) : Box4 w' b R A n c F l := ⟨(h 0).trans x.1, (h 1).trans x.2.1, (h 2).trans x.2.2.1, (h 3).trans x.2.2.2⟩
theorem Box4.lt (x : Box4 w b R A n c F l) : b < w.heap.size := World.block_lt_of_cell? _ _ x.1
theorem Box4.below (x : Box4 w b R A n c F l) (h : Below w.heap.size w w') : Box4 w' b R A n c F l := x.of_cells fun j => h.cell (p := ⟨b, j, none⟩) x.lt
theorem Box4.up (x : Box4 w b R A n c F l) (y : Up w) : Box4 y.w b R A n c F l := x.below y.b
theorem Own4.under (h : Own4 w b R A n c F l) {q : Nat} (hb : Below q w w') (hq : b < q) : Own4 w' b R A n c F l :=
  ⟨h.1.of_cells fun j => hb.cell (p := ⟨b, j, none⟩) hq, fun j => (hb.frozen (p := ⟨b, j, none⟩) hq).trans (h.2 j)⟩
theorem Own4.grow (h : Own4 w b R A n c F l) (hb : Below w.heap.size w w') : Own4 w' b R A n c F l := h.under hb h.1.lt
theorem Own4.alloc (h : Own4 w b R A n c F l) (x : Obj) : Own4 (w.alloc x) b R A n c F l := h.grow ((Below.refl _ w).alloc (Nat.le_refl _) x)
theorem Own4.newT (w : World) (T : TypeId) : Own4 (w.alloc (.cells #[.int .i64 R, .slice A n c, .int .i64 F, .int .i64 l] T)) w.heap.size R A n c F l := by
  refine ⟨⟨?_, ?_, ?_, ?_⟩, fun j => ?_⟩ <;> simp
theorem Own4.set0 (h : Own4 w b R A n c F l) (R' : Int) : Own4 (w.setCell ⟨b, 0, none⟩ (.int .i64 R')) b R' A n c F l := by
  obtain ⟨⟨h0, h1, h2, h3⟩, hf⟩ := h
  exact ⟨⟨cell_set w b 0 _ _ h0 0, (cell_set w b 0 _ _ h0 1).trans h1, (cell_set w b 0 _ _ h0 2).trans h2, (cell_set w b 0 _ _ h0 3).trans h3⟩, fun j => (World.frozen?_setCell _ _ _ _).trans (hf j)⟩
theorem Own4.set1 (h : Own4 w b R A n c F l) (A' : Option Addr) (n' c' : Nat) : Own4 (w.setCell ⟨b, 1, none⟩ (.slice A' n' c')) b R A' n' c' F l := by
  obtain ⟨⟨h0, h1, h2, h3⟩, hf⟩ := h
  exact ⟨⟨(cell_set w b 1 _ _ h1 0).trans h0, cell_set w b 1 _ _ h1 1, (cell_set w b 1 _ _ h1 2).trans h2, (cell_set w b 1 _ _ h1 3).trans h3⟩, fun j => (World.frozen?_setCell _ _ _ _).trans (hf j)⟩
theorem Own4.set2 (h : Own4 w b R A n c F l) (F' : Int) : Own4 (w.setCell ⟨b, 2, none⟩ (.int .i64 F')) b R A n c F' l := by
  obtain ⟨⟨h0, h1, h2, h3⟩, hf⟩ := h
  exact ⟨⟨(cell_set w b 2 _ _ h2 0).trans h0, (cell_set w b 2 _ _ h2 1).trans h1, cell_set w b 2 _ _ h2 2, (cell_set w b 2 _ _ h2 3).trans h3⟩, fun j => (World.frozen?_setCell _ _ _ _).trans (hf j)⟩
theorem Own4.set3 (h : Own4 w b R A n c F l) (l' : Int) : Own4 (w.setCell ⟨b, 3, none⟩ (.int .i64 l')) b R A n c F l' := by
  obtain ⟨⟨h0, h1, h2, h3⟩, hf⟩ := h
  exact ⟨⟨(cell_set w b 3 _ _ h3 0).trans h0, (cell_set w b 3 _ _ h3 1).trans h1, (cell_set w b 3 _ _ h3 2).trans h2, cell_set w b 3 _ _ h3 3⟩, fun j => (World.frozen?_setCell _ _ _ _).trans (hf j)⟩
theorem Own4.other (h : Own4 w b R A n c F l) {p : Addr} (hp : p.block ≠ b) (u : Value) : Own4 (w.setCell p u) b R A n c F l := by
  have e : (w.setCell p u).heap[b]? = w.heap[b]? := Below.heap_setCell w p u b (fun e => hp e.symm)
  exact ⟨h.1.of_cells fun j => World.cell?_of_block (w := w) (a := ⟨b, j, none⟩) e, fun j => (World.frozen?_of_block (w := w) (a := ⟨b, j, none⟩) e).trans (h.2 j)⟩
theorem Own4.touch (h : Own4 w b R A n c F l) {q s : Nat} (ht : Touch w w' q s) (hq : b < q ∨ s ≤ b) : Own4 w' b R A n c F l := by
  have e := ht.block b h.1.lt hq
  exact ⟨h.1.of_cells fun j => World.cell?_of_block (w := w) (a := ⟨b, j, none⟩) e, fun j => (World.frozen?_of_block (w := w) (a := ⟨b, j, none⟩) e).trans (h.2 j)⟩
theorem Own4.setAll (h : Own4 w b R A n c F l) (R' : Int) (A' : Option Addr) (n' c' : Nat) (F' l' : Int) :
    Own4 ((((w.setCell ⟨b, 0, none⟩ (.int .i64 R')).setCell ⟨b, 1, none⟩ (.slice A' n' c')).setCell ⟨b, 2, none⟩ (.int .i64 F')).setCell ⟨b, 3, none⟩ (.int .i64 l')) b R' A' n' c' F' l' := (((h.set0 R').set1 A' n' c').set2 F').set3 l'
theorem Own2.lt (x : Own2 w b o d) : b < w.heap.size := World.block_lt_of_cell? _ _ x.1.1
theorem Own2.grow (h : Own2 w b o d) (hb : Below w.heap.size w w') : Own2 w' b o d :=
  ⟨⟨(hb.cell (p := ⟨b, 0, none⟩) h.lt).trans h.1.1, (hb.cell (p := ⟨b, 1, none⟩) h.lt).trans h.1.2⟩, fun j => (hb.frozen (p := ⟨b, j, none⟩) h.lt).trans (h.2 j)⟩
theorem Own2.newT (w : World) (T : TypeId) : Own2 (w.alloc (.cells #[.int .i64 o, .string d] T)) w.heap.size o d := by
  refine ⟨⟨?_, ?_⟩, fun j => ?_⟩ <;> simp
theorem Own2.set0 (h : Own2 w b o d) (o' : Int) : Own2 (w.setCell ⟨b, 0, none⟩ (.int .i64 o')) b o' d := by
  obtain ⟨⟨h0, h1⟩, hf⟩ := h
  exact ⟨⟨cell_set w b 0 _ _ h0 0, (cell_set w b 0 _ _ h0 1).trans h1⟩, fun j => (World.frozen?_setCell _ _ _ _).trans (hf j)⟩
theorem Own2.set1 (h : Own2 w b o d) (d' : ByteArray) : Own2 (w.setCell ⟨b, 1, none⟩ (.string d')) b o d' := by
  obtain ⟨⟨h0, h1⟩, hf⟩ := h
  exact ⟨⟨(cell_set w b 1 _ _ h1 0).trans h0, cell_set w b 1 _ _ h1 1⟩, fun j => (World.frozen?_setCell _ _ _ _).trans (hf j)⟩
theorem Own2.other (h : Own2 w b o d) {p : Addr} (hp : p.block ≠ b) (u : Value) : Own2 (w.setCell p u) b o d := by
  have e : (w.setCell p u).heap[b]? = w.heap[b]? := Below.heap_setCell w p u b (fun e => hp e.symm)
  exact ⟨⟨(World.cell?_of_block (w := w) (a := ⟨b, 0, none⟩) e).trans h.1.1, (World.cell?_of_block (w := w) (a := ⟨b, 1, none⟩) e).trans h.1.2⟩, fun j => (World.frozen?_of_block (w := w) (a := ⟨b, j, none⟩) e).trans (h.2 j)⟩
theorem results_r4 {fn : Func} {t : Tmp} (h : fn.results = #[.cell t 58]) {tmps : Array Value} (hp : tmps.getD t undef = .pointer (some ⟨b, 0, none⟩)) (hx : Own4 w b R A n c F l) :
    (results fn tmps).run Try.prog w = .ok (.agg #[.int .i64 R, .slice A n c, .int .i64 F, .int .i64 l]) w := by
  obtain ⟨⟨h0, h1, h2, h3⟩, _⟩ := hx
  have hp' : tmps[t]?.getD undef = .pointer (some ⟨b, 0, none⟩) := by simpa using hp
  simp [results, h, hp', go_sem, h0, h1, h2, h3]
theorem results_rv {fn : Func} {t u : Tmp} (h : fn.results = #[.cell t 58, .tmp u]) {tmps : Array Value} (hp : tmps.getD t undef = .pointer (some ⟨b, 0, none⟩)) {v : Value} (hu : tmps.getD u undef = v) (hx : Own4 w b R A n c F l) :
    (results fn tmps).run Try.prog w = .ok (.tuple #[.agg #[.int .i64 R, .slice A n c, .int .i64 F, .int .i64 l], v]) w := by
  obtain ⟨⟨h0, h1, h2, h3⟩, _⟩ := hx
  have hp' : tmps[t]?.getD undef = .pointer (some ⟨b, 0, none⟩) := by simpa using hp
  have hu' : tmps[u]?.getD undef = v := by simpa using hu
  simp [results, h, hp', hu', go_sem, h0, h1, h2, h3]
end

set_option maxHeartbeats 400000 in
/-- Where a piece ends. -/
theorem pend_v {o : Int} {d : ByteArray} {q : Int} (hq : o + d.size = q) (w : World) (ho : -1000000 ≤ o ∧ o ≤ 1000000) (hd : d.size ≤ 1000000) :
    Calls Try.prog 99 #[.agg #[.int .i64 o, .string d]] w fun e w' => e = .returned (.int .i64 q) ∧ Below w.heap.size w w' := by
  have hwr : IntKind.i64.wrap (o + (d.size : Int)) = q := by rw [← hq]; exact IntWalk.i64_in _ (by omega)
  go_enter Try.func99, Try.ntmps99
  go_wp2_with fail
  go_ret
  exact ⟨rfl, by go_grown⟩

set_option maxHeartbeats 1000000 in
/-- Where what was received ends. -/
theorem rend_v {D : ByteArray} {L : List Rg} {R F l q : Int} {A : Option Addr} {c : Nat} (hq : endOf R L = q) (hx : Rx D L) (w : World) (h : PcAt w A L.length (pcs D L)) :
    Calls Try.prog 77 #[.agg #[.int .i64 R, .slice A L.length c, .int .i64 F, .int .i64 l]] w fun e w' => e = .returned (.int .i64 q) ∧ Below w.heap.size w w' := by
  have hAW := h.alloc (.cells #[.int .i64 R, .slice A L.length c, .int .i64 F, .int .i64 l] 58)
  rcases Nat.eq_zero_or_pos L.length with e0 | hpos
  · unfold endOf at hq
    rw [if_pos e0] at hq
    subst hq
    rw [e0]
    clear hAW h
    go_enter Try.func77, Try.ntmps77
    go_wp2_with fail
    go_ret
    exact ⟨rfl, by go_grown⟩
  · obtain ⟨j, hj⟩ : ∃ j, L.length = j + 1 := ⟨L.length - 1, by omega⟩
    unfold endOf at hq
    rw [if_neg (by omega), hj, Nat.add_sub_cancel] at hq
    obtain ⟨h1, h2, h3⟩ := hx.at_ (i := j) (by omega)
    have hlen := hx.len
    have hsz := pce_size h1 h2 h3
    obtain ⟨b, off, rfl, hb, hc⟩ := hAW.2 hpos
    obtain ⟨c0, c1⟩ := hc j (by omega)
    rw [pcs_th (by omega)] at c0 c1
    obtain ⟨⟨o, d⟩, hp⟩ : ∃ p, pce D (rth L j) = p := ⟨_, rfl⟩
    have ho : (rth L j).lo = o := congrArg Pc.o hp
    rw [hp] at c0 c1 hsz
    rw [ho] at hsz h1 h2
    dsimp only at c0 c1 hsz
    have hq' : o + d.size = q := by omega
    have hj16 := hx.few
    have hw1 : IntKind.i64.wrap (((j + 1 : Nat) : Int) - 1) = (j : Int) := by rw [show ((j + 1 : Nat) : Int) - 1 = (j : Int) from by omega]; exact IntWalk.i64_in _ (by omega)
    have hw2 : IntKind.i64.wrap ((j : Int) + 1 - 1) = (j : Int) := by rw [show (j : Int) + 1 - 1 = (j : Int) from by omega]; exact IntWalk.i64_in _ (by omega)
    have hw3 : IntKind.i64.wrap (j : Int) = (j : Int) := IntWalk.i64_in _ (by omega)
    have hj0 : (0 : Int) ≤ (j : Int) := by omega
    rw [hj] at c0 c1 ⊢
    clear hc hp ho hAW h
    go_enter Try.func77, Try.ntmps77
    go_wp2_with (go_at_call 99; (with_reducible refine (pend_v hq' _ (by omega) (by omega)).mono ?_); rintro e wn ⟨rfl, hb1⟩)
    go_ret
    exact ⟨rfl, ((Below.refl _ w).alloc (Nat.le_refl _) _).trans (hb1.mono (by simp))⟩

end Go.Proofs.Ytmkmaeblnnfheaa
