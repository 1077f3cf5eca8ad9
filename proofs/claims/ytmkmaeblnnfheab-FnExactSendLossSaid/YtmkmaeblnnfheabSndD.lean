/- A part in memory; results of several values; the reference cuts a part out of a stream. -/
import Derived.Test.YtmkmaeblnnfheabSndC
namespace Go.Proofs.Ytmkmaeblnnfheab
open Go.RowKit
attribute [local irreducible] Go.wpQuiet

def Own3 (w : World) (b : Nat) (o : Int) (d : ByteArray) (f : Bool) : Prop := (w.cell? ⟨b, 0, none⟩ = some (.int .i64 o) ∧ w.cell? ⟨b, 1, none⟩ = some (.string d) ∧ w.cell? ⟨b, 2, none⟩ = some (.bool f)) ∧ ∀ j, w.frozen? ⟨b, j, none⟩ = false
section
variable {w w' : World} {b : Nat} {o : Int} {d : ByteArray} {f : Bool}
theorem Own3.lt (h : Own3 w b o d f) : b < w.heap.size := World.block_lt_of_cell? _ _ h.1.1
theorem Own3.same (h : Own3 w b o d f) (hc : ∀ j, w'.cell? ⟨b, j, none⟩ = w.cell? ⟨b, j, none⟩) (hf : ∀ j, w'.frozen? ⟨b, j, none⟩ = w.frozen? ⟨b, j, none⟩) : Own3 w' b o d f :=
  ⟨⟨(hc 0).trans h.1.1, (hc 1).trans h.1.2.1, (hc 2).trans h.1.2.2⟩, fun j => (hf j).trans (h.2 j)⟩
theorem Own3.under (h : Own3 w b o d f) {q : Nat} (hb : Below q w w') (hq : b < q) : Own3 w' b o d f := h.same (fun j => hb.cell (p := ⟨b, j, none⟩) hq) fun j => hb.frozen (p := ⟨b, j, none⟩) hq
theorem Own3.alloc (h : Own3 w b o d f) (x : Obj) : Own3 (w.alloc x) b o d f := h.under ((Below.refl w.heap.size w).alloc (Nat.le_refl _) x) h.lt
theorem Own3.new (w : World) (o : Int) (d : ByteArray) (f : Bool) : Own3 (w.alloc (.cells #[.int .i64 o, .string d, .bool f] 29)) w.heap.size o d f := by
  refine ⟨⟨?_, ?_, ?_⟩, fun j => ?_⟩ <;> simp
theorem Own3.other (h : Own3 w b o d f) {p : Addr} (hp : p.block ≠ b) (u : Value) : Own3 (w.setCell p u) b o d f := by
  have e : (w.setCell p u).heap[b]? = w.heap[b]? := Below.heap_setCell w p u b (fun e => hp e.symm)
  exact h.same (fun j => World.cell?_of_block (w := w) (a := ⟨b, j, none⟩) e) fun j => World.frozen?_of_block (w := w) (a := ⟨b, j, none⟩) e
theorem Own3.setAll (h : Own3 w b o d f) (o' : Int) (d' : ByteArray) (f' : Bool) : Own3 (((w.setCell ⟨b, 0, none⟩ (.int .i64 o')).setCell ⟨b, 1, none⟩ (.string d')).setCell ⟨b, 2, none⟩ (.bool f')) b o' d' f' := by
  obtain ⟨⟨h0, h1, h2⟩, hf⟩ := h
  have a0 := cell_set w b 0 (.int .i64 o') _ h0
  have a1 := cell_set (w.setCell ⟨b, 0, none⟩ (.int .i64 o')) b 1 (.string d') _ ((a0 1).trans h1)
  have a2 := cell_set ((w.setCell ⟨b, 0, none⟩ (.int .i64 o')).setCell ⟨b, 1, none⟩ (.string d')) b 2 (.bool f') _ ((a1 2).trans ((a0 2).trans h2))
  exact ⟨⟨(a2 0).trans ((a1 0).trans (a0 0)), (a2 1).trans (a1 1), a2 2⟩, fun j => by rw [World.frozen?_setCell, World.frozen?_setCell, World.frozen?_setCell]; exact hf j⟩
theorem results_prt {fn : Func} {t : Tmp} (h : fn.results = #[.cell t 29]) {tmps : Array Value} (hp : tmps.getD t undef = .pointer (some ⟨b, 0, none⟩)) (hx : Own3 w b o d f) :
    (results fn tmps).run Try.prog w = .ok (.agg #[.int .i64 o, .string d, .bool f]) w := by
  obtain ⟨⟨h0, h1, h2⟩, _⟩ := hx
  have hp' : tmps[t]?.getD undef = .pointer (some ⟨b, 0, none⟩) := by simpa using hp
  simp [results, h, hp', go_sem, h0, h1, h2]
end
section
variable {w : World} {b : Nat} {d : ByteArray} {f : Bool} {l n : Int} {A : Option Addr} {na ca : Nat} {B : Option Addr} {nb cb : Nat}
theorem results_sb {fn : Func} {t u : Tmp} (h : fn.results = #[.cell t 25, .tmp u]) {tmps : Array Value} (hp : tmps.getD t undef = .pointer (some ⟨b, 0, none⟩)) {v : Value} (hu : tmps.getD u undef = v) (hx : Own6 w b d f l n A na ca B nb cb) :
    (results fn tmps).run Try.prog w = .ok (.tuple #[.agg #[.string d, .bool f, .int .i64 l, .int .i64 n, .slice A na ca, .slice B nb cb], v]) w := by
  obtain ⟨⟨h0, h1, h2, h3, h4, h5⟩, _⟩ := hx
  have hp' : tmps[t]?.getD undef = .pointer (some ⟨b, 0, none⟩) := by simpa using hp
  have hu' : tmps[u]?.getD undef = v := by simpa using hu
  simp [results, h, hp', hu', go_sem, h0, h1, h2, h3, h4, h5]
theorem results_spb {fn : Func} {t s u : Tmp} {p : Nat} {o : Int} {dp : ByteArray} {fp : Bool} (h : fn.results = #[.cell t 25, .cell s 29, .tmp u]) {tmps : Array Value} (hp : tmps.getD t undef = .pointer (some ⟨b, 0, none⟩)) (hs : tmps.getD s undef = .pointer (some ⟨p, 0, none⟩)) {v : Value} (hu : tmps.getD u undef = v) (hx : Own6 w b d f l n A na ca B nb cb) (hy : Own3 w p o dp fp) :
    (results fn tmps).run Try.prog w = .ok (.tuple #[.agg #[.string d, .bool f, .int .i64 l, .int .i64 n, .slice A na ca, .slice B nb cb], .agg #[.int .i64 o, .string dp, .bool fp], v]) w := by
  obtain ⟨⟨h0, h1, h2, h3, h4, h5⟩, _⟩ := hx
  obtain ⟨⟨g0, g1, g2⟩, _⟩ := hy
  have hp' : tmps[t]?.getD undef = .pointer (some ⟨b, 0, none⟩) := by simpa using hp
  have hs' : tmps[s]?.getD undef = .pointer (some ⟨p, 0, none⟩) := by simpa using hs
  have hu' : tmps[u]?.getD undef = v := by simpa using hu
  simp [results, h, hp', hs', hu', go_sem, h0, h1, h2, h3, h4, h5, g0, g1, g2]
end

set_option maxRecDepth 100000 in
set_option maxHeartbeats 4000000 in
theorem part_s (d : ByteArray) (f : Bool) (l n : Int) (LA LB : List Rg) (A : Option Addr) (na ca : Nat) (B : Option Addr) (nb cb : Nat) (lo hi : Int) (w : World) (h0 : 0 ≤ lo) (h1 : lo ≤ d.size) (h2 : -1000000 ≤ hi ∧ hi ≤ 1000000) {p : Pt} (hp : part ⟨d, f, l, n, LA, LB⟩ lo hi = p) :
    Calls Try.prog 77 #[.agg #[.string d, .bool f, .int .i64 l, .int .i64 n, .slice A na ca, .slice B nb cb], .int .i64 lo, .int .i64 hi] w fun e w' => e = .returned (.agg #[.int .i64 p.o, .string p.d, .bool p.f]) ∧ Below w.heap.size w w' := by
  have HP := hid_of hp
  clear hp
  obtain ⟨ev, hev⟩ : ∃ v, (if (d.size : Int) < hi + 1 then (d.size : Int) else hi + 1) = v := ⟨_, rfl⟩
  have HEV : Hid (min (hi + 1) (d.size : Int) = ev) := by unfold Hid; rw [← hev]; split <;> omega
  obtain ⟨xv, hxv⟩ : ∃ v, (if lo < ev then ev else lo) = v := ⟨_, rfl⟩
  have HXV : Hid (max lo ev = xv) := by unfold Hid; rw [← hxv]; split <;> omega
  have hx0 : lo ≤ xv := by have := HXV.out; omega
  have hx1 : xv ≤ (d.size : Int) := by have := HXV.out; have := HEV.out; omega
  have hx2 : (0 : Int) ≤ xv := by omega
  have z := Own6.new (d := d) (f := f) (l := l) (n := n) (A := A) (na := na) (ca := ca) (B := B) (nb := nb) (cb := cb) w
  have z0 := (z.alloc (.cells #[.int .i64 0, .string ByteArray.empty, .bool false] 29)).1.1
  have r := Own3.new (w.alloc (.cells #[.string d, .bool f, .int .i64 l, .int .i64 n, .slice A na ca, .slice B nb cb] 25)) 0 ByteArray.empty false
  rw [show (w.alloc (.cells #[.string d, .bool f, .int .i64 l, .int .i64 n, .slice A na ca, .slice B nb cb] 25)).heap.size = w.heap.size + 1 from by simp] at r
  have R := hid_of r
  clear z r
  go_enter Try.func77, Try.ntmps77
  go_wp2_with fail
  go_region_held3 (fun w' => w'.cell? ⟨w.heap.size, 0, none⟩ = some (.string d)) (go_keep) (fail)
  all_goals go_wp2_with fail
  all_goals
    go_returns
    refine ⟨?_, by go_grown⟩
    rw [← HP.out]
    unfold part
    dsimp only
    rw [HEV.out, HXV.out]
    rfl

end Go.Proofs.Ytmkmaeblnnfheab
