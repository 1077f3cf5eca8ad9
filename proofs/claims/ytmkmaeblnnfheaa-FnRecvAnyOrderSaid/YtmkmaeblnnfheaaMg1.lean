/- Merged: RowKit, Head, RowMem, RangePlain, SendPlain, RngMem, SendLaws, SendLaws2, RngA, RngV, RngB, Up, SndA, RngC, DrwP, SentPlain. -/
import Derived.Test.YtmkmaeblnnfheaaRows
import Derived.WalkKit
import Derived.ProofKit
import Derived.OpenShut
import Derived.ShutString
import Derived.ChangeOld
import Derived.Below
import Derived.Lib.SmallJoins
import Derived.JoinedOf
import Derived.KernelRfl
import Derived.Lib.Hide
import Derived.Laws.OwnMore
import Derived.OwnWalk
import Derived.ArgAppend
import Derived.Deep.QuietTactic
import Derived.BigQuiet
import Derived.Test.YtmkmaeblnnfheaaChecked
import Derived.Handy
import Derived.StillTailTactics
import Derived.Shelf.Abstract
import Derived.Lib.SliceRun
import Derived.Deep.RegionWith
import Derived.Deep.RegionLaw
import Derived.Deep.AppendLies
import Derived.Deep.RegionHeld3
/- For the rows: a struct of five integers by value, opened; what a walk is told of a slice of integers that came in. -/
namespace Go.Proofs.Ytmkmaeblnnfheaa
open Go.ChangeShapes Go.WideShapes Go.ChangeAt Go.RowKit Go.Joins Go.Deep

theorem own : ownKnob Try.prog.godebug = none := by kernel_rfl
theorem laidOut : laidOutB Try.prog = true := by kernel_rfl

/-- A slice of integers that came in: it is nil; or it leads to a row of 'cap' cells, the numbers 'zs', each fitting its kind. -/
def IsRow (k : IntKind) (w : World) (a : Option Addr) (len cap : Nat) (zs : List Int) : Prop :=
  (a = none ∧ len = 0 ∧ cap = 0 ∧ zs = []) ∨
  ∃ x, a = some x ∧ len ≤ cap ∧ cap ≤ maxLen ∧ zs.length = cap ∧ (∀ i, i < zs.length → w.cell? (x.add i) = some (.int k (zs.getD i 0))) ∧ ∀ n ∈ zs, (Lit.int k n).wf = true

section
variable {H : Type} {enc : TypeId × Value → H} {P : Program} {w : World} {base : Nat} {spare : Nat → Bool} {held : Bool}
theorem isRow_open {t e : TypeId} {k : IntKind} {d : DataW H} {p : List MemPlace} {a : Option Addr} {len cap : Nat} (ht : P.underlying t = some (.slice e)) (he : P.underlying e = some (.int k)) (hc : P.cellsOf e = 1)
    (h : DataW.Trod enc P w 0 (fun _ => true) true t (.slice a len cap) d p) : ∃ zs, IsRow k w a len cap zs := by
  obtain ⟨fuel, hf⟩ := h
  rcases open_ints ht he hc hf with ⟨hcs, _⟩ | ⟨x, l, c, zs, hcs, _, hl, hm, hz, _, hcell, hwz⟩
  · simp [Value.cells] at hcs
    obtain ⟨rfl, rfl, rfl⟩ := hcs
    exact ⟨[], .inl ⟨rfl, rfl, rfl, rfl⟩⟩
  · simp [Value.cells] at hcs
    obtain ⟨rfl, rfl, rfl⟩ := hcs
    exact ⟨zs, .inr ⟨_, rfl, hl, hm, by simpa using hz, hcell, hwz⟩⟩

/-- A struct of five integers, by value: its numbers. -/
theorem open_ints5 {r : Reach} {b0 : Nat} {t e : TypeId} {f0 f1 f2 f3 f4 : Field} {v : Value} {d : DataW H} {p : List MemPlace} (hs : P.underlying t = some (.struct #[f0, f1, f2, f3, f4])) (hone : oneCellFields P #[f0, f1, f2, f3, f4] = true) (hC : P.cellsOf t = 5)
    (t0 : f0.type = e) (t1 : f1.type = e) (t2 : f2.type = e) (t3 : f3.type = e) (t4 : f4.type = e) (he : P.underlying e = some (.int .i64))
    (hv : Value.okWide P w r b0 t v) (h : DataW.Trod enc P w base spare held t v d p) :
    ∃ n0 n1 n2 n3 n4 : Int, v = .agg #[.int .i64 n0, .int .i64 n1, .int .i64 n2, .int .i64 n3, .int .i64 n4] := by
  obtain ⟨cs, rfl, hsz⟩ := okWide_struct hs hv
  obtain ⟨l⟩ := cs
  match l, hsz.trans hC with
  | [c0, c1, c2, c3, c4], _ =>
    obtain ⟨fuel, hf⟩ := h
    obtain ⟨xs, n, _, hx, _, hlen, hg⟩ := DataW.trod_struct hs hf
    obtain ⟨o0, k0⟩ := hone_of hone 0 f0 rfl
    obtain ⟨o1, k1⟩ := hone_of hone 1 f1 rfl
    obtain ⟨o2, k2⟩ := hone_of hone 2 f2 rfl
    obtain ⟨o3, k3⟩ := hone_of hone 3 f3 rfl
    obtain ⟨o4, k4⟩ := hone_of hone 4 f4 rfl
    match xs, hlen with
    | [y0, y1, y2, y3, y4], _ =>
      have e0 : DataW.trod enc P w base spare held n f0.type [c0] = some y0 := by simpa [Value.cells, o0, k0] using hg 0 f0 rfl
      have e1 : DataW.trod enc P w base spare held n f1.type [c1] = some y1 := by simpa [Value.cells, o1, k1] using hg 1 f1 rfl
      have e2 : DataW.trod enc P w base spare held n f2.type [c2] = some y2 := by simpa [Value.cells, o2, k2] using hg 2 f2 rfl
      have e3 : DataW.trod enc P w base spare held n f3.type [c3] = some y3 := by simpa [Value.cells, o3, k3] using hg 3 f3 rfl
      have e4 : DataW.trod enc P w base spare held n f4.type [c4] = some y4 := by simpa [Value.cells, o4, k4] using hg 4 f4 rfl
      rw [t0] at e0
      rw [t1] at e1
      rw [t2] at e2
      rw [t3] at e3
      rw [t4] at e4
      obtain ⟨a0, q0, _, _⟩ := DataW.trod_int he e0
      obtain ⟨a1, q1, _, _⟩ := DataW.trod_int he e1
      obtain ⟨a2, q2, _, _⟩ := DataW.trod_int he e2
      obtain ⟨a3, q3, _, _⟩ := DataW.trod_int he e3
      obtain ⟨a4, q4, _, _⟩ := DataW.trod_int he e4
      simp at q0 q1 q2 q3 q4
      subst q0 q1 q2 q3 q4
      exact ⟨a0, a1, a2, a3, a4, rfl⟩
end

end Go.Proofs.Ytmkmaeblnnfheaa
/- The first words of a translation's head, read without reading the rest of it: three of a row's closed facts hang on them alone. -/
namespace Go.Proofs.Ytmkmaeblnnfheaa
open Go

theorem words_split (r : List Char) : ∀ a : List Char, (∀ c ∈ a, c ≠ Char.ofNat 32) → wordsSigns (a ++ Char.ofNat 32 :: r) = a :: wordsSigns r
  | [], _ => rfl
  | c :: a, h => by
    have ih := words_split r a (fun x hx => h x (List.mem_cons_of_mem _ hx))
    have hc : c ≠ Char.ofNat 32 := h c List.mem_cons_self
    show wordsSigns (c :: (a ++ Char.ofNat 32 :: r)) = _
    rw [wordsSigns]
    · rw [ih]
    · exact hc

theorem strip_cut (R : List (List Char)) : stripLifts liftWords ("cut".toList :: R) = ([], "cut".toList :: R) := by rfl

section
variable {P : Program} {R : List (List Char)}
theorem headLifts_cut (h : behindMainWord (wordsSigns P.initOrder.toList) = "cut".toList :: R) : P.headLifts = [] := by
  unfold Program.headLifts
  rw [h, strip_cut]
  rfl
theorem mayEnter_cut (h : behindMainWord (wordsSigns P.initOrder.toList) = "cut".toList :: R) (h1 : P.laysLater = false) (h2 : P.bearsReflect = false) (h3 : P.doorFits [] = true) : P.mayEnter = true := by
  unfold Program.mayEnter
  rw [h]
  simp only [strip_cut, h1, h2, h3]
  rfl
theorem liftsFinal_cut (h : behindMainWord (wordsSigns P.initOrder.toList) = "cut".toList :: R) : P.liftsFinal = false := by
  unfold Program.liftsFinal
  rw [headLifts_cut h, h]
  rfl
theorem make_cut (h : behindMainWord (wordsSigns P.initOrder.toList) = "cut".toList :: R) : P.make = some .cut := by
  unfold Program.make
  rw [h]
  rfl
end

set_option maxRecDepth 100000 in
theorem head_is : ∃ r, Try.prog.initOrder = String.ofList ([Char.ofNat 104, Char.ofNat 97, Char.ofNat 114, Char.ofNat 110, Char.ofNat 101, Char.ofNat 115, Char.ofNat 115] ++ Char.ofNat 32 :: ([Char.ofNat 102, Char.ofNat 102, Char.ofNat 51, Char.ofNat 56, Char.ofNat 54, Char.ofNat 56, Char.ofNat 50, Char.ofNat 99, Char.ofNat 55, Char.ofNat 52, Char.ofNat 100, Char.ofNat 52, Char.ofNat 54, Char.ofNat 49, Char.ofNat 98, Char.ofNat 49, Char.ofNat 55, Char.ofNat 99, Char.ofNat 98, Char.ofNat 102, Char.ofNat 98, Char.ofNat 99, Char.ofNat 101, Char.ofNat 99, Char.ofNat 49, Char.ofNat 53, Char.ofNat 49, Char.ofNat 48, Char.ofNat 57, Char.ofNat 98, Char.ofNat 48, Char.ofNat 53, Char.ofNat 54, Char.ofNat 102, Char.ofNat 48, Char.ofNat 97, Char.ofNat 102, Char.ofNat 52, Char.ofNat 57, Char.ofNat 55, Char.ofNat 97, Char.ofNat 97, Char.ofNat 50, Char.ofNat 49, Char.ofNat 54, Char.ofNat 49, Char.ofNat 56, Char.ofNat 57, Char.ofNat 102, Char.ofNat 101, Char.ofNat 57, Char.ofNat 101, Char.ofNat 57, Char.ofNat 100, Char.ofNat 53, Char.ofNat 54, Char.ofNat 98, Char.ofNat 53, Char.ofNat 99, Char.ofNat 97, Char.ofNat 54, Char.ofNat 99, Char.ofNat 99, Char.ofNat 99] ++ Char.ofNat 32 :: ([Char.ofNat 99, Char.ofNat 117, Char.ofNat 116] ++ Char.ofNat 32 :: r))) := ⟨_, rfl⟩

theorem head_cut : ∃ R, behindMainWord (wordsSigns Try.prog.initOrder.toList) = "cut".toList :: R := by
  obtain ⟨r, hr⟩ := head_is
  refine ⟨wordsSigns r, ?_⟩
  rw [hr, String.toList_ofList, words_split _ _ (by decide), words_split _ _ (by decide), words_split _ _ (by decide)]
  rfl

theorem h_mayEnter : Try.prog.mayEnter = true := by
  obtain ⟨R, h⟩ := head_cut
  exact mayEnter_cut h (by kernel_rfl) (by kernel_rfl) (by kernel_rfl)
theorem h_liftsFinal : Try.prog.liftsFinal = false := by
  obtain ⟨R, h⟩ := head_cut
  exact liftsFinal_cut h
theorem h_make : Try.prog.make = some .cut := by
  obtain ⟨R, h⟩ := head_cut
  exact make_cut h

end Go.Proofs.Ytmkmaeblnnfheaa
/- Rows of cells in memory: a slice whose elements have k cells each, in a block between two bounds; what stands when other blocks turn. -/
namespace Go.Proofs.Ytmkmaeblnnfheaa
open Go.RowKit

theorem hid_of {p : Prop} (h : p) : Hid p := h

/-- Of the blocks that were there, only those from B on and below S may have turned. -/
structure Touch (w w' : World) (B S : Nat) : Prop where
  os : w'.os = w.os
  tape : w'.tape = w.tape
  output : w'.output = w.output
  size : w.heap.size ≤ w'.heap.size
  block : ∀ k, k < w.heap.size → (k < B ∨ S ≤ k) → w'.heap[k]? = w.heap[k]?

section
variable {w w' w'' : World} {B S B' S' : Nat}
theorem Touch.refl (w : World) (B S : Nat) : Touch w w B S := ⟨rfl, rfl, rfl, Nat.le_refl _, fun _ _ _ => rfl⟩
theorem Touch.of_below (h : Below w.heap.size w w') (B S : Nat) : Touch w w' B S := ⟨h.os, h.tape, h.output, h.size, fun k hk _ => h.block k hk⟩
theorem Touch.trans (h : Touch w w' B S) (k : Touch w' w'' B S) : Touch w w'' B S :=
  ⟨k.os.trans h.os, k.tape.trans h.tape, k.output.trans h.output, Nat.le_trans h.size k.size, fun i hi hb => (k.block i (Nat.lt_of_lt_of_le hi h.size) hb).trans (h.block i hi hb)⟩
theorem Touch.drew (h : Touch w w' B S) : Touch w w'.drew B S := ⟨h.os, h.tape, h.output, h.size, h.block⟩
theorem Touch.drewN (h : Touch w w' B S) (n : Nat) : Touch w (w'.drewN n) B S := ⟨h.os, h.tape, h.output, h.size, h.block⟩
theorem Touch.alloc (h : Touch w w' B S) (o : Obj) : Touch w (w'.alloc o) B S :=
  ⟨h.os, h.tape, h.output, Nat.le_trans h.size (by simp), fun i hi hb => (Below.heap_alloc w' o i (Nat.lt_of_lt_of_le hi h.size)).trans (h.block i hi hb)⟩
theorem Touch.setCell (h : Touch w w' B S) {p : Addr} (hp : B ≤ p.block) (hp' : p.block < S) (u : Value) : Touch w (w'.setCell p u) B S :=
  ⟨h.os, h.tape, h.output, by simpa [World.setCell] using h.size, fun i hi hb => (Below.heap_setCell w' p u i (by omega)).trans (h.block i hi hb)⟩
theorem Touch.setNew (h : Touch w w' B S) {p : Addr} (hp : w.heap.size ≤ p.block) (u : Value) : Touch w (w'.setCell p u) B S :=
  ⟨h.os, h.tape, h.output, by simpa [World.setCell] using h.size, fun i hi hb => (Below.heap_setCell w' p u i (by omega)).trans (h.block i hi hb)⟩
theorem below_touch {W : World} (h : Below B W w) (t : Touch w w' B' S') (h1 : B ≤ B') (h2 : B ≤ w.heap.size) : Below B W w' :=
  ⟨t.os.trans h.os, t.tape.trans h.tape, t.output.trans h.output, Nat.le_trans h.size t.size, fun k hk => (t.block k (by omega) (.inl (by omega))).trans (h.block k hk)⟩
theorem below_drewN {W : World} (h : Below B W w) (n : Nat) : Below B W (w.drewN n) := ⟨h.os, h.tape, h.output, h.size, h.block⟩
theorem grown_of_touch (h : Touch w w' B B) : w.grownBy w' none := ⟨h.os, h.tape, h.output, h.size, fun k hk _ => h.block k hk (by omega)⟩
theorem below_of_none (h : w.grownBy w' none) : Below w.heap.size w w' := ⟨h.os, h.tape, h.output, h.size, fun k hk => h.block k hk (by simp)⟩
end

/-- The slice at A of n elements (capacity c) of type T, k cells each: its cells are xs; unless it is empty it lies at the head of a block of its own, from B on and below S. -/
def RowIn (T : TypeId) (k : Nat) (w : World) (B S : Nat) (A : Option Addr) (n c : Nat) (xs : List Value) : Prop :=
  xs.length = n * k ∧ ((n = 0 ∧ c = 0) ∨ (w.ownsRow B T k (.slice A n c) n xs ∧ ∃ g, A = some ⟨g, 0, none⟩ ∧ B ≤ g ∧ g < S ∧ g < w.heap.size))

section
variable {T : TypeId} {k : Nat} {w w' : World} {B S B' S' : Nat} {A : Option Addr} {n c : Nat} {xs : List Value}
theorem RowIn.len (h : RowIn T k w B S A n c xs) : xs.length = n * k := h.1
theorem RowIn.cap (h : RowIn T k w B S A n c xs) : n ≤ c ∧ c ≤ maxLen := by
  rcases h.2 with ⟨rfl, rfl⟩ | ⟨ho, g, rfl, _⟩
  · exact ⟨Nat.le_refl _, by unfold maxLen; omega⟩
  · rcases ho.2 with ⟨h1, _⟩ | ⟨g', c', cur, h1, _, _, h2, h3, _⟩
    · cases h1
    · cases h1
      exact ⟨h2, h3⟩
/-- The block. -/
theorem RowIn.blk (h : RowIn T k w B S A n c xs) (hn : 0 < n) : ∃ g, A = some ⟨g, 0, none⟩ ∧ B ≤ g ∧ g < S ∧ g < w.heap.size ∧ (∀ j, j < n * k → w.cell? ⟨g, j, none⟩ = xs[j]?) ∧ ∀ j, w.frozen? ⟨g, j, none⟩ = false := by
  rcases h.2 with ⟨rfl, _⟩ | ⟨ho, g, rfl, hb, hs, hw⟩
  · omega
  · exact ⟨g, rfl, hb, hs, hw, fun j hj => ho.cellAt j hj, fun j => ho.frozenAt j⟩
theorem RowIn.own (h : RowIn T k w B S A n c xs) (hn : 0 < n) : w.ownsRow B T k (.slice A n c) n xs := by
  rcases h.2 with ⟨rfl, _⟩ | ⟨ho, _⟩
  · omega
  · exact ho
theorem RowIn.same (h : RowIn T k w B S A n c xs) (hs : w.heap.size ≤ w'.heap.size) (hb : ∀ g, A = some ⟨g, 0, none⟩ → B ≤ g → g < S → w'.heap[g]? = w.heap[g]?) : RowIn T k w' B S A n c xs := by
  refine ⟨h.1, ?_⟩
  rcases h.2 with h0 | ⟨ho, g, rfl, h1, h2, h3⟩
  · exact .inl h0
  · refine .inr ⟨⟨ho.1, ?_⟩, g, rfl, h1, h2, Nat.lt_of_lt_of_le h3 hs⟩
    rcases ho.2 with e | ⟨g', c', cur, e, r1, r2, r⟩
    · exact .inl e
    · refine .inr ⟨g', c', cur, e, r1, ?_, r⟩
      cases e
      rw [hb g rfl h1 h2]
      exact r2
theorem RowIn.touch (h : RowIn T k w B S A n c xs) (t : Touch w w' B' S') (hd : S ≤ B' ∨ S' ≤ B) : RowIn T k w' B S A n c xs := by
  rcases h.2 with ⟨rfl, rfl⟩ | ⟨_, g, rfl, _, _, h3⟩
  · exact ⟨h.1, .inl ⟨rfl, rfl⟩⟩
  · refine h.same t.size fun g' e h1 h2 => ?_
    cases e
    exact t.block g h3 (by omega)
theorem RowIn.below (h : RowIn T k w B S A n c xs) (hb : Below w.heap.size w w') : RowIn T k w' B S A n c xs := by
  rcases h.2 with ⟨rfl, rfl⟩ | ⟨_, g, rfl, _, _, h3⟩
  · exact ⟨h.1, .inl ⟨rfl, rfl⟩⟩
  · refine h.same hb.size fun g' e _ _ => ?_
    cases e
    exact hb.block g h3
theorem RowIn.grown (h : RowIn T k w B S A n c xs) (hg : w.grownBy w' none) : RowIn T k w' B S A n c xs := h.below (below_of_none hg)
theorem RowIn.alloc (h : RowIn T k w B S A n c xs) (o : Obj) : RowIn T k (w.alloc o) B S A n c xs := h.below ((Below.refl _ _).alloc (Nat.le_refl _) o)
theorem RowIn.drew (h : RowIn T k w B S A n c xs) : RowIn T k w.drew B S A n c xs := h
theorem RowIn.drewN (h : RowIn T k w B S A n c xs) (m : Nat) : RowIn T k (w.drewN m) B S A n c xs := h
theorem RowIn.other (h : RowIn T k w B S A n c xs) {p : Addr} (hp : A ≠ some ⟨p.block, 0, none⟩) (u : Value) : RowIn T k (w.setCell p u) B S A n c xs :=
  h.same (by simp [World.setCell]) fun g e _ _ => Below.heap_setCell w p u g fun e2 => hp (by rw [e, e2])
theorem RowIn.mono (h : RowIn T k w B S A n c xs) (h1 : B' ≤ B) (h2 : S ≤ S') : RowIn T k w B' S' A n c xs := by
  refine ⟨h.1, ?_⟩
  rcases h.2 with h0 | ⟨ho, g, rfl, r1, r2, r3⟩
  · exact .inl h0
  · refine .inr ⟨⟨ho.1, ?_⟩, g, rfl, by omega, by omega, r3⟩
    rcases ho.2 with e | ⟨g', c', cur, e, q1, q⟩
    · exact .inl e
    · exact .inr ⟨g', c', cur, e, by omega, q⟩
theorem RowIn.stored {g : Nat} (h : RowIn T k w B S (some ⟨g, 0, none⟩) n c xs) (hn : 0 < n) (j : Nat) (u : Value) : RowIn T k (w.setCell ⟨g, j, none⟩ u) B S (some ⟨g, 0, none⟩) n c (xs.set j u) := by
  rcases h.2 with ⟨rfl, _⟩ | ⟨ho, g', e, r1, r2, r3⟩
  · omega
  · cases e
    exact ⟨by rw [List.length_set]; exact h.1, .inr ⟨(ho.stored j u).1, g, rfl, r1, r2, by simpa [World.setCell] using r3⟩⟩
/-- What a law on owned rows leaves. -/
theorem RowIn.of_own {v : Value} (h : w.ownsRow B T k v n xs) : ∃ A c, v = .slice A n c ∧ RowIn T k w B w.heap.size A n c xs := by
  rcases h.2 with ⟨rfl, rfl⟩ | ⟨g, c, cur, rfl, r1, r2, r⟩
  · exact ⟨none, 0, rfl, h.1, .inl ⟨rfl, rfl⟩⟩
  · have hlt := (Array.getElem?_eq_some_iff.1 r2).1
    exact ⟨_, c, rfl, h.1, .inr ⟨h, g, rfl, r1, hlt, hlt⟩⟩
theorem RowIn.of_own' {c : Nat} (h : w.ownsRow B T k (.slice A n c) n xs) : RowIn T k w B w.heap.size A n c xs := by
  obtain ⟨A', c', e, hr⟩ := RowIn.of_own h
  cases e
  exact hr
theorem RowIn.empty {A : Option Addr} (T : TypeId) (k : Nat) (w : World) (B S : Nat) : RowIn T k w B S A 0 0 [] := ⟨by simp, .inl ⟨rfl, rfl⟩⟩
end

section
variable {T : TypeId} {w : World} {B S : Nat} {n c g k : Nat} {X R : List Value}
/-- Element k of three cells is stored: one element more is known. -/
theorem RowIn.fill3 (h : RowIn T 3 w B S (some ⟨g, 0, none⟩) n c (X ++ R)) (hX : X.length = k * 3) (hR : R.length = (n - k) * 3) (hk : k < n) (u0 u1 u2 : Value) :
    ∃ R', R'.length = (n - (k + 1)) * 3 ∧ RowIn T 3 (((w.setCell ⟨g, k * 3, none⟩ u0).setCell ⟨g, k * 3 + 1, none⟩ u1).setCell ⟨g, k * 3 + 2, none⟩ u2) B S (some ⟨g, 0, none⟩) n c ((X ++ [u0, u1, u2]) ++ R') := by
  obtain ⟨a, b, d, R', rfl⟩ : ∃ a b d R', R = a :: b :: d :: R' := by
    match R, hR with
    | a :: b :: d :: R', _ => exact ⟨a, b, d, R', rfl⟩
    | [], h => simp at h; omega
    | [_], h => simp at h; omega
    | [_, _], h => simp at h; omega
  refine ⟨R', by simp at hR; omega, ?_⟩
  have e := ((h.stored (by omega) (k * 3) u0).stored (by omega) (k * 3 + 1) u1).stored (by omega) (k * 3 + 2) u2
  have e2 : (((X ++ a :: b :: d :: R').set (k * 3) u0).set (k * 3 + 1) u1).set (k * 3 + 2) u2 = (X ++ [u0, u1, u2]) ++ R' := by
    rw [List.set_append_right _ _ (by omega), show k * 3 - X.length = 0 from by omega, List.set_cons_zero]
    rw [List.set_append_right _ _ (by omega), show k * 3 + 1 - X.length = 0 + 1 from by omega, List.set_cons_succ, List.set_cons_zero]
    rw [List.set_append_right _ _ (by omega), show k * 3 + 2 - X.length = 0 + 1 + 1 from by omega, List.set_cons_succ, List.set_cons_succ, List.set_cons_zero]
    simp
  rw [e2] at e
  exact e
/-- The cells below n elements are there. -/
theorem RowIn.some_ {j : Nat} (h : RowIn T k w B S (some ⟨g, 0, none⟩) n c X) (hn : 0 < n) (hj : j < n * k) : ∃ v, w.cell? ⟨g, j, none⟩ = some v := by
  obtain ⟨g', e, _, _, _, hc, _⟩ := h.blk hn
  cases e
  exact ⟨_, (hc j hj).trans (List.getElem?_eq_getElem (by rw [h.1]; exact hj))⟩
end

end Go.Proofs.Ytmkmaeblnnfheaa
/- Plain facts on sets of numbers as lists of ranges: membership, lists that are ascending and apart, adding and removing. No program in sight. -/
namespace Go.Proofs.Ytmkmaeblnnfheaa
open Go.RowKit

/-- The numbers from lo to hi. -/
structure Rg where
  lo : Int
  hi : Int

def inB (r : Rg) (n : Int) : Bool := decide (r.lo ≤ n ∧ n ≤ r.hi)
def memB (L : List Rg) (n : Int) : Bool := L.any fun r => inB r n
def Canon (L : List Rg) : Prop := (∀ r, r ∈ L → r.lo ≤ r.hi) ∧ L.Pairwise fun a b => a.hi + 2 ≤ b.lo

theorem inB_iff {r : Rg} {n : Int} : inB r n = true ↔ r.lo ≤ n ∧ n ≤ r.hi := by unfold inB; simp
theorem memB_nil (n : Int) : memB [] n = false := rfl
theorem memB_cons (r : Rg) (L : List Rg) (n : Int) : memB (r :: L) n = (inB r n || memB L n) := rfl
theorem memB_append (A B : List Rg) (n : Int) : memB (A ++ B) n = (memB A n || memB B n) := by unfold memB; exact List.any_append
theorem memB_iff {L : List Rg} {n : Int} : memB L n = true ↔ ∃ r, r ∈ L ∧ r.lo ≤ n ∧ n ≤ r.hi := by
  unfold memB
  rw [List.any_eq_true]
  exact ⟨fun ⟨r, h1, h2⟩ => ⟨r, h1, inB_iff.1 h2⟩, fun ⟨r, h1, h2⟩ => ⟨r, h1, inB_iff.2 h2⟩⟩
theorem canon_nil : Canon [] := ⟨fun _ h => by simp at h, List.Pairwise.nil⟩
theorem canon_cons {r : Rg} {L : List Rg} : Canon (r :: L) ↔ r.lo ≤ r.hi ∧ (∀ b, b ∈ L → r.hi + 2 ≤ b.lo) ∧ Canon L := by
  unfold Canon
  rw [List.pairwise_cons]
  constructor
  · rintro ⟨h1, h2, h3⟩
    exact ⟨h1 r List.mem_cons_self, h2, fun x hx => h1 x (List.mem_cons_of_mem _ hx), h3⟩
  · rintro ⟨h1, h2, h3, h4⟩
    refine ⟨fun x hx => ?_, h2, h4⟩
    rcases List.mem_cons.1 hx with e | e
    · rw [e]; exact h1
    · exact h3 x e
theorem mem_after {r : Rg} {L : List Rg} {n : Int} (h : ∀ b, b ∈ L → r.hi + 2 ≤ b.lo) (hm : memB L n = true) : r.hi + 2 ≤ n := by
  obtain ⟨b, hb, h1, _⟩ := memB_iff.1 hm
  have := h b hb
  omega

/-- A set has one such list. -/
theorem canon_unique : ∀ A B : List Rg, Canon A → Canon B → (∀ n, memB A n = memB B n) → A = B
  | [], [], _, _, _ => rfl
  | [], b :: B, _, hB, h => by
    have hb := (canon_cons.1 hB).1
    have := h b.lo
    rw [memB_nil, memB_cons, inB_iff.2 ⟨Int.le_refl _, hb⟩] at this
    cases this
  | a :: A, [], hA, _, h => by
    have ha := (canon_cons.1 hA).1
    have := h a.lo
    rw [memB_nil, memB_cons, inB_iff.2 ⟨Int.le_refl _, ha⟩] at this
    cases this
  | a :: A, b :: B, hA, hB, h => by
    obtain ⟨ha, sa, cA⟩ := canon_cons.1 hA
    obtain ⟨hb, sb, cB⟩ := canon_cons.1 hB
    have up : ∀ (x y : Rg) (X Y : List Rg), x.lo ≤ x.hi → (∀ c, c ∈ Y → y.hi + 2 ≤ c.lo) → y.lo ≤ y.hi → (∀ n, memB (x :: X) n = memB (y :: Y) n) → y.lo ≤ x.lo := by
      intro x y X Y hx sy hy hh
      have := hh x.lo
      rw [memB_cons, inB_iff.2 ⟨Int.le_refl _, hx⟩, memB_cons] at this
      simp only [Bool.true_or] at this
      rcases Bool.or_eq_true _ _ ▸ this.symm with e | e
      · have := inB_iff.1 e; omega
      · have := mem_after sy e; omega
    have hlo : a.lo = b.lo := by
      have h1 := up a b A B ha sb hb h
      have h2 := up b a B A hb sa ha fun n => (h n).symm
      omega
    have uph : ∀ (x y : Rg) (X Y : List Rg), x.lo ≤ x.hi → (∀ c, c ∈ X → x.hi + 2 ≤ c.lo) → x.lo = y.lo → (∀ n, memB (x :: X) n = memB (y :: Y) n) → y.hi ≤ x.hi := by
      intro x y X Y hx sx he hh
      rcases Int.lt_or_le x.hi y.hi with hlt | hle
      · have := hh (x.hi + 1)
        rw [memB_cons, memB_cons, (inB_iff.2 ⟨by omega, by omega⟩ : inB y (x.hi + 1) = true)] at this
        simp only [Bool.true_or] at this
        rcases Bool.or_eq_true _ _ ▸ this with e | e
        · have := inB_iff.1 e; omega
        · have := mem_after sx e; omega
      · exact hle
    have hhi : a.hi = b.hi := by
      have h1 := uph a b A B ha sa hlo h
      have h2 := uph b a B A hb sb hlo.symm fun n => (h n).symm
      omega
    have hab : a = b := by cases a; cases b; simp_all
    subst hab
    rw [canon_unique A B cA cB fun n => by
      have := h n
      rw [memB_cons, memB_cons] at this
      cases hi : inB a n with
      | false => rw [hi] at this; simpa using this
      | true =>
        have hi' := inB_iff.1 hi
        have f1 : ∀ X : List Rg, (∀ c, c ∈ X → a.hi + 2 ≤ c.lo) → memB X n = false := fun X sX => by
          cases hm : memB X n with
          | false => rfl
          | true => have := mem_after sX hm; omega
        rw [f1 A sa, f1 B sb]]

/-- One range into a list: the reference's step. The state: what is out, the range, whether it is out. -/
structure Ad where
  out : List Rg
  lo : Int
  hi : Int
  put : Bool
def adStep (s : Ad) (r : Rg) : Ad :=
  if r.hi < s.lo - 1 then { s with out := s.out ++ [r] }
  else if r.lo > s.hi + 1 then
    if s.put = true then { s with out := s.out ++ [r] } else ⟨s.out ++ [⟨s.lo, s.hi⟩] ++ [r], s.lo, s.hi, true⟩
  else { s with lo := min s.lo r.lo, hi := max s.hi r.hi }
def adEnd (s : Ad) : List Rg := if s.put = true then s.out else s.out ++ [⟨s.lo, s.hi⟩]
def specAdd (L : List Rg) (lo hi : Int) : List Rg := adEnd (L.foldl adStep ⟨[], lo, hi, false⟩)

/-- The program's way: what lies before; what touches, in one range; the rest. -/
def addMerge : List Rg → Int → Int → List Rg
  | [], lo, hi => [⟨lo, hi⟩]
  | r :: L, lo, hi => if r.lo ≤ hi + 1 then addMerge L (min lo r.lo) (max hi r.hi) else ⟨lo, hi⟩ :: r :: L
def add : List Rg → Int → Int → List Rg
  | [], lo, hi => [⟨lo, hi⟩]
  | r :: L, lo, hi => if r.hi + 1 < lo then r :: add L lo hi else addMerge (r :: L) lo hi

theorem put_rest : ∀ (L : List Rg) (O : List Rg) (lo hi : Int), (∀ b, b ∈ L → hi + 1 < b.lo) → adEnd (L.foldl adStep ⟨O, lo, hi, true⟩) = O ++ L
  | [], O, lo, hi, _ => by simp [adEnd]
  | r :: L, O, lo, hi, h => by
    have hr := h r List.mem_cons_self
    have e : adStep ⟨O, lo, hi, true⟩ r = ⟨O ++ [r], lo, hi, true⟩ := by
      unfold adStep
      dsimp only
      by_cases h1 : r.hi < lo - 1
      · rw [if_pos h1]
      · rw [if_neg h1, if_pos (by omega), if_pos rfl]
    rw [List.foldl_cons, e, put_rest L _ lo hi fun b hb => h b (List.mem_cons_of_mem _ hb)]
    simp
theorem merge_rest : ∀ (L : List Rg) (O : List Rg) (lo hi : Int), Canon L → (∀ b, b ∈ L → lo ≤ b.hi + 1) → adEnd (L.foldl adStep ⟨O, lo, hi, false⟩) = O ++ addMerge L lo hi
  | [], O, lo, hi, _, _ => by simp [adEnd, addMerge]
  | r :: L, O, lo, hi, hc, h => by
    obtain ⟨h1, h2, h3⟩ := canon_cons.1 hc
    have hr := h r List.mem_cons_self
    rw [List.foldl_cons]
    unfold addMerge
    by_cases hm : r.lo ≤ hi + 1
    · have e : adStep ⟨O, lo, hi, false⟩ r = ⟨O, min lo r.lo, max hi r.hi, false⟩ := by
        unfold adStep
        dsimp only
        rw [if_neg (by omega), if_neg (by omega)]
      rw [e, if_pos hm, merge_rest L O _ _ h3 fun b hb => by have := h b (List.mem_cons_of_mem _ hb); omega]
    · have e : adStep ⟨O, lo, hi, false⟩ r = ⟨O ++ [⟨lo, hi⟩] ++ [r], lo, hi, true⟩ := by
        unfold adStep
        dsimp only
        rw [if_neg (by omega), if_pos (by omega), if_neg (by decide)]
      rw [e, if_neg hm, put_rest L _ lo hi fun b hb => by have := h2 b hb; omega]
      simp
theorem spec_add_aux : ∀ (L : List Rg) (O : List Rg) (lo hi : Int), Canon L → lo ≤ hi → adEnd (L.foldl adStep ⟨O, lo, hi, false⟩) = O ++ add L lo hi
  | [], O, lo, hi, _, _ => by simp [adEnd, add]
  | r :: L, O, lo, hi, hc, hl => by
    obtain ⟨h1, h2, h3⟩ := canon_cons.1 hc
    unfold add
    by_cases hb : r.hi + 1 < lo
    · have e : adStep ⟨O, lo, hi, false⟩ r = ⟨O ++ [r], lo, hi, false⟩ := by
        unfold adStep
        dsimp only
        rw [if_pos (by omega)]
      rw [List.foldl_cons, e, if_pos hb, spec_add_aux L _ lo hi h3 hl]
      simp
    · rw [if_neg hb]
      refine merge_rest (r :: L) O lo hi hc fun b hb' => ?_
      rcases List.mem_cons.1 hb' with e | e
      · rw [e]; omega
      · have := h2 b e
        have := h3.1 b e
        omega
theorem spec_add {L : List Rg} {lo hi : Int} (hc : Canon L) (hl : lo ≤ hi) : specAdd L lo hi = add L lo hi := by
  unfold specAdd
  rw [spec_add_aux L [] lo hi hc hl]
  rfl

theorem addMerge_canon : ∀ (L : List Rg) (lo hi : Int), Canon L → lo ≤ hi → (∀ b, b ∈ L → lo ≤ b.hi + 1) →
    Canon (addMerge L lo hi) ∧ (∀ n, memB (addMerge L lo hi) n = ((decide (lo ≤ n ∧ n ≤ hi)) || memB L n)) ∧ (∀ x : Int, x + 2 ≤ lo → (∀ b, b ∈ L → x + 2 ≤ b.lo) → ∀ b, b ∈ addMerge L lo hi → x + 2 ≤ b.lo)
  | [], lo, hi, _, hl, _ => by
    refine ⟨canon_cons.2 ⟨hl, fun _ h => by simp at h, canon_nil⟩, fun n => rfl, fun x h1 _ b hb => ?_⟩
    have : b = ⟨lo, hi⟩ := by simpa [addMerge] using hb
    rw [this]
    exact h1
  | r :: L, lo, hi, hc, hl, h => by
    obtain ⟨h1, h2, h3⟩ := canon_cons.1 hc
    have hr := h r List.mem_cons_self
    unfold addMerge
    by_cases hm : r.lo ≤ hi + 1
    · rw [if_pos hm]
      obtain ⟨a1, a2, a3⟩ := addMerge_canon L (min lo r.lo) (max hi r.hi) h3 (by omega) fun b hb => by have := h b (List.mem_cons_of_mem _ hb); omega
      refine ⟨a1, fun n => ?_, fun x hx hb => a3 x (by have := hb r List.mem_cons_self; omega) fun b hb' => hb b (List.mem_cons_of_mem _ hb')⟩
      rw [a2, memB_cons, ← Bool.or_assoc]
      congr 1
      unfold inB
      rw [Bool.eq_iff_iff]
      simp
      omega
    · rw [if_neg hm]
      refine ⟨canon_cons.2 ⟨hl, fun b hb => ?_, hc⟩, fun n => rfl, fun x hx hb b hb' => ?_⟩
      · rcases List.mem_cons.1 hb with e | e
        · rw [e]; show hi + 2 ≤ r.lo; omega
        · have := h2 b e; show hi + 2 ≤ b.lo; omega
      · rcases List.mem_cons.1 hb' with e | e
        · rw [e]; exact hx
        · exact hb b e
theorem add_canon : ∀ (L : List Rg) (lo hi : Int), Canon L → lo ≤ hi →
    Canon (add L lo hi) ∧ (∀ n, memB (add L lo hi) n = ((decide (lo ≤ n ∧ n ≤ hi)) || memB L n)) ∧ (∀ x : Int, x + 2 ≤ lo → (∀ b, b ∈ L → x + 2 ≤ b.lo) → ∀ b, b ∈ add L lo hi → x + 2 ≤ b.lo)
  | [], lo, hi, _, hl => addMerge_canon [] lo hi canon_nil hl fun _ h => by simp at h
  | r :: L, lo, hi, hc, hl => by
    obtain ⟨h1, h2, h3⟩ := canon_cons.1 hc
    unfold add
    by_cases hb : r.hi + 1 < lo
    · rw [if_pos hb]
      obtain ⟨a1, a2, a3⟩ := add_canon L lo hi h3 hl
      refine ⟨canon_cons.2 ⟨h1, a3 r.hi (by omega) h2, a1⟩, fun n => ?_, fun x hx hh b hb' => ?_⟩
      · rw [memB_cons, a2, memB_cons]
        cases inB r n <;> cases decide (lo ≤ n ∧ n ≤ hi) <;> rfl
      · rcases List.mem_cons.1 hb' with e | e
        · rw [e]; exact hh r List.mem_cons_self
        · exact a3 x hx (fun c hc' => hh c (List.mem_cons_of_mem _ hc')) b e
    · rw [if_neg hb]
      refine addMerge_canon (r :: L) lo hi hc hl fun b hb' => ?_
      rcases List.mem_cons.1 hb' with e | e
      · rw [e]; omega
      · have := h2 b e
        have := h3.1 b e
        omega

/-- What is left of one range when the numbers from lo to hi go. -/
def cut1 (r : Rg) (lo hi : Int) : List Rg := (if r.lo < lo then [⟨r.lo, min r.hi (lo - 1)⟩] else []) ++ (if r.hi > hi then [⟨max r.lo (hi + 1), r.hi⟩] else [])
def remove (L : List Rg) (lo hi : Int) : List Rg := L.flatMap fun r => cut1 r lo hi
theorem cut1_canon {r : Rg} {lo hi : Int} (hr : r.lo ≤ r.hi) (hl : lo ≤ hi) :
    Canon (cut1 r lo hi) ∧ (∀ n, memB (cut1 r lo hi) n = (inB r n && !decide (lo ≤ n ∧ n ≤ hi))) ∧ ∀ b, b ∈ cut1 r lo hi → r.lo ≤ b.lo ∧ b.hi ≤ r.hi := by
  unfold cut1
  by_cases h1 : r.lo < lo <;> by_cases h2 : r.hi > hi
  · rw [if_pos h1, if_pos h2]
    refine ⟨canon_cons.2 ⟨by dsimp only; omega, fun b hb => ?_, canon_cons.2 ⟨by dsimp only; omega, fun _ h => by simp at h, canon_nil⟩⟩, fun n => ?_, fun b hb => ?_⟩
    · have : b = ⟨max r.lo (hi + 1), r.hi⟩ := by simpa using hb
      rw [this]; dsimp only; omega
    · show (inB _ n || (inB _ n || false)) = _
      unfold inB
      rw [Bool.eq_iff_iff]
      simp
      omega
    · rcases List.mem_cons.1 hb with e | e
      · rw [e]; dsimp only; omega
      · have : b = ⟨max r.lo (hi + 1), r.hi⟩ := by simpa using e
        rw [this]; dsimp only; omega
  · rw [if_pos h1, if_neg h2]
    refine ⟨canon_cons.2 ⟨by dsimp only; omega, fun _ h => by simp at h, canon_nil⟩, fun n => ?_, fun b hb => ?_⟩
    · show (inB _ n || false) = _
      unfold inB
      rw [Bool.eq_iff_iff]
      simp
      omega
    · have : b = ⟨r.lo, min r.hi (lo - 1)⟩ := by simpa using hb
      rw [this]; dsimp only; omega
  · rw [if_neg h1, if_pos h2]
    refine ⟨canon_cons.2 ⟨by dsimp only; omega, fun _ h => by simp at h, canon_nil⟩, fun n => ?_, fun b hb => ?_⟩
    · show (inB _ n || false) = _
      unfold inB
      rw [Bool.eq_iff_iff]
      simp
      omega
    · have : b = ⟨max r.lo (hi + 1), r.hi⟩ := by simpa using hb
      rw [this]; dsimp only; omega
  · rw [if_neg h1, if_neg h2]
    refine ⟨canon_nil, fun n => ?_, fun b hb => by simp at hb⟩
    show false = _
    unfold inB
    rw [Bool.eq_iff_iff]
    simp
    omega
theorem canon_append {A B : List Rg} (hA : Canon A) (hB : Canon B) (h : ∀ a, a ∈ A → ∀ b, b ∈ B → a.hi + 2 ≤ b.lo) : Canon (A ++ B) :=
  ⟨fun r hr => (List.mem_append.1 hr).elim (hA.1 r) (hB.1 r), List.pairwise_append.2 ⟨hA.2, hB.2, h⟩⟩
theorem remove_canon : ∀ {L : List Rg} {lo hi : Int}, Canon L → lo ≤ hi →
    Canon (remove L lo hi) ∧ (∀ n, memB (remove L lo hi) n = (memB L n && !decide (lo ≤ n ∧ n ≤ hi))) ∧ ∀ b, b ∈ remove L lo hi → ∃ r, r ∈ L ∧ r.lo ≤ b.lo ∧ b.hi ≤ r.hi
  | [], _, _, _, _ => ⟨canon_nil, fun _ => rfl, fun _ h => by simp [remove] at h⟩
  | r :: L, lo, hi, hc, hl => by
    obtain ⟨h1, h2, h3⟩ := canon_cons.1 hc
    obtain ⟨a1, a2, a3⟩ := remove_canon (L := L) h3 hl
    obtain ⟨b1, b2, b3⟩ := cut1_canon (r := r) h1 hl
    have e : remove (r :: L) lo hi = cut1 r lo hi ++ remove L lo hi := by unfold remove; simp
    rw [e]
    refine ⟨canon_append b1 a1 fun a ha b hb => ?_, fun n => ?_, fun b hb => ?_⟩
    · obtain ⟨x, hx, hx1, _⟩ := a3 b hb
      have := b3 a ha
      have := h2 x hx
      omega
    · rw [memB_append, b2, a2, memB_cons]
      cases inB r n <;> cases memB L n <;> cases decide (lo ≤ n ∧ n ≤ hi) <;> rfl
    · rcases List.mem_append.1 hb with h | h
      · exact ⟨r, List.mem_cons_self, b3 b h⟩
      · obtain ⟨x, hx, hx'⟩ := a3 b h
        exact ⟨x, List.mem_cons_of_mem _ hx, hx'⟩

end Go.Proofs.Ytmkmaeblnnfheaa
/- The sending side of a stream as plain functions: valid, next, sent, acknowledged, lost; what the reference reckons is what the program reckons. No program in sight. -/
namespace Go.Proofs.Ytmkmaeblnnfheaa
open Go.RowKit

def rth (L : List Rg) (i : Nat) : Rg := L.getD i ⟨0, 0⟩
theorem rth_mem {L : List Rg} {i : Nat} (h : i < L.length) : rth L i ∈ L := by
  unfold rth
  rw [List.getD_eq_getElem?_getD, List.getElem?_eq_getElem h]
  exact List.getElem_mem h
theorem mem_rth {L : List Rg} {r : Rg} (h : r ∈ L) : ∃ i, i < L.length ∧ rth L i = r := by
  obtain ⟨i, hi, e⟩ := List.mem_iff_getElem.1 h
  exact ⟨i, hi, by unfold rth; rw [List.getD_eq_getElem?_getD, List.getElem?_eq_getElem hi]; exact e⟩
theorem rth_eq {L : List Rg} {i : Nat} (h : i < L.length) : rth L i = L[i] := by
  unfold rth
  rw [List.getD_eq_getElem?_getD, List.getElem?_eq_getElem h]
  rfl

/-- A set of numbers as the program keeps it. -/
def RV (L : List Rg) : Prop := L.length ≤ 16 ∧ Canon L ∧ ∀ r, r ∈ L → 0 ≤ r.lo ∧ r.hi ≤ 999
noncomputable def rvB (L : List Rg) : Bool := @decide (RV L) (Classical.propDecidable _)
theorem rvB_iff {L : List Rg} : rvB L = true ↔ RV L := by unfold rvB; exact @decide_eq_true_iff _ (Classical.propDecidable _)
/-- What is asked of range k, those ahead of it being good. -/
def chk (L : List Rg) (k : Nat) : Prop := 0 ≤ (rth L k).lo ∧ (0 < k → (rth L (k - 1)).hi + 2 ≤ (rth L k).lo) ∧ (rth L k).lo ≤ (rth L k).hi ∧ (rth L k).hi ≤ 999
theorem canon_get {L : List Rg} (h : Canon L) {i j : Nat} (hij : i < j) (hj : j < L.length) : (rth L i).hi + 2 ≤ (rth L j).lo := by
  have := List.pairwise_iff_getElem.1 h.2 i j (by omega) hj hij
  rw [rth_eq (by omega), rth_eq hj]
  exact this
theorem chk_of {L : List Rg} (h : RV L) {k : Nat} (hk : k < L.length) : chk L k :=
  ⟨(h.2.2 _ (rth_mem hk)).1, fun h0 => canon_get h.2.1 (by omega) hk, h.2.1.1 _ (rth_mem hk), (h.2.2 _ (rth_mem hk)).2⟩
theorem chk_far {L : List Rg} : ∀ {m : Nat}, (∀ k, k < m → chk L k) → ∀ i j, i < j → j < m → (rth L i).hi + 2 ≤ (rth L j).lo
  | 0, _, _, j, _, hj => by omega
  | m + 1, h, i, j, hij, hj => by
    rcases Nat.lt_or_ge j m with e | e
    · exact chk_far (m := m) (fun k hk => h k (by omega)) i j hij e
    · obtain rfl : j = m := by omega
      obtain ⟨_, h2, _⟩ := h j (by omega)
      have h2 := h2 (by omega)
      rcases Nat.lt_or_ge i (j - 1) with e | e
      · have := chk_far (m := j) (fun k hk => h k (by omega)) i (j - 1) e (by omega)
        have := (h (j - 1) (by omega)).2.2.1
        omega
      · obtain rfl : i = j - 1 := by omega
        exact h2
theorem rv_of {L : List Rg} (hl : L.length ≤ 16) (h : ∀ k, k < L.length → chk L k) : RV L := by
  refine ⟨hl, ⟨fun r hr => ?_, List.pairwise_iff_getElem.2 fun i j hi hj hij => ?_⟩, fun r hr => ?_⟩
  · obtain ⟨i, hi, rfl⟩ := mem_rth hr
    exact (h i hi).2.2.1
  · have := chk_far h i j hij hj
    rw [rth_eq hi, rth_eq hj] at this
    exact this
  · obtain ⟨i, hi, rfl⟩ := mem_rth hr
    exact ⟨(h i hi).1, (h i hi).2.2.2⟩
theorem rvB_true {L : List Rg} (hl : L.length ≤ 16) (h : ∀ k, k < L.length → chk L k) : rvB L = true := rvB_iff.2 (rv_of hl h)
theorem rvB_long {L : List Rg} (hl : 16 < L.length) : rvB L = false := by
  cases hb : rvB L with
  | false => rfl
  | true => have := (rvB_iff.1 hb).1; omega
theorem rvB_bad {L : List Rg} {k : Nat} (hk : k < L.length) (h : ¬ chk L k) : rvB L = false := by
  cases hb : rvB L with
  | false => rfl
  | true => exact absurd (chk_of (rvB_iff.1 hb) hk) h
theorem chk_next {L : List Rg} {m : Nat} (h : ∀ q, q < m → chk L q) (h1 : chk L m) (q : Nat) (hq : q < m + 1) : chk L q := by
  rcases (show q < m ∨ q = m from by omega) with e | e
  · exact h q e
  · rw [e]; exact h1

/-- Ranges that end below N, ascending and apart, are few. -/
theorem canon_few : ∀ (L : List Rg) (x N : Int), Canon L → (∀ r, r ∈ L → x ≤ r.lo ∧ r.hi < N) → L ≠ [] → x + 2 * (L.length : Int) - 1 ≤ N
  | [], _, _, _, _, h => absurd rfl h
  | r :: L, x, N, hc, hb, _ => by
    obtain ⟨h1, h2, h3⟩ := canon_cons.1 hc
    have hr := hb r List.mem_cons_self
    by_cases hL : L = []
    · subst hL; simp; omega
    · have := canon_few L (r.hi + 2) N h3 (fun b hb' => ⟨h2 b hb', (hb b (List.mem_cons_of_mem _ hb')).2⟩) hL
      simp
      omega
theorem canon_few16 {L : List Rg} {N : Int} (hc : Canon L) (h : ∀ r, r ∈ L → 0 ≤ r.lo ∧ r.hi < N) (hN : N ≤ 31) : L.length ≤ 16 := by
  by_cases hL : L = []
  · subst hL; simp
  · have := canon_few L 0 N hc h hL
    omega

/-- The sending side. -/
structure Sd where
  d : ByteArray
  f : Bool
  l : Int
  n : Int
  A : List Rg
  L : List Rg
structure Pt where
  o : Int
  d : ByteArray
  f : Bool
def Sd.pos (s : Sd) : Int := if s.f = true then s.d.size + 1 else s.d.size
def Pt.last (p : Pt) : Int := if p.f = true then p.o + p.d.size else p.o + p.d.size - 1
def pt0 : Pt := ⟨0, ByteArray.empty, false⟩
def sd0 : Sd := ⟨ByteArray.empty, false, 0, 0, [], []⟩
theorem pos_le (s : Sd) : (s.d.size : Int) ≤ s.pos ∧ s.pos ≤ s.d.size + 1 := by unfold Sd.pos; split <;> omega

structure SV (s : Sd) : Prop where
  len : s.d.size ≤ 30
  l0 : 0 ≤ s.l
  l1 : s.l ≤ 30
  n0 : 0 ≤ s.n
  n1 : s.n ≤ s.pos
  lim : min s.n s.d.size ≤ s.l
  a : RV s.A
  b : RV s.L
  aLt : ∀ i, memB s.A i = true → i < s.n
  bLt : ∀ i, memB s.L i = true → i < s.n
  apart : ∀ i, memB s.A i = true → memB s.L i = true → False
noncomputable def okS (s : Sd) : Bool := @decide (SV s) (Classical.propDecidable _)
theorem okS_iff {s : Sd} : okS s = true ↔ SV s := by unfold okS; exact @decide_eq_true_iff _ (Classical.propDecidable _)
theorem okS_not {s : Sd} (h : SV s → False) : okS s = false := by
  cases hb : okS s with
  | false => rfl
  | true => exact absurd (okS_iff.1 hb) h
theorem mem_hi {L : List Rg} {r : Rg} (hc : Canon L) (h : r ∈ L) : memB L r.hi = true := memB_iff.2 ⟨r, h, hc.1 r h, Int.le_refl _⟩
theorem mem_lo {L : List Rg} {r : Rg} (hc : Canon L) (h : r ∈ L) : memB L r.lo = true := memB_iff.2 ⟨r, h, Int.le_refl _, hc.1 r h⟩
theorem mem_range {L : List Rg} {i : Int} (h : ∀ r, r ∈ L → 0 ≤ r.lo ∧ r.hi ≤ 999) (hm : memB L i = true) : 0 ≤ i ∧ i ≤ 999 := by
  obtain ⟨r, hr, h1, h2⟩ := memB_iff.1 hm
  have := h r hr
  omega
theorem SV.n31 {s : Sd} (h : SV s) : s.n ≤ 31 := by have := h.n1; have := (pos_le s).2; have := h.len; omega
theorem lt_of_last {L : List Rg} {n : Int} (hc : Canon L) (hl : 0 < L.length) (h : (rth L (L.length - 1)).hi < n) {i : Int} (hm : memB L i = true) : i < n := by
  obtain ⟨r, hr, h1, h2⟩ := memB_iff.1 hm
  obtain ⟨j, hj, rfl⟩ := mem_rth hr
  rcases Nat.lt_or_ge j (L.length - 1) with e | e
  · have := canon_get hc e (by omega)
    have := hc.1 _ (rth_mem (L := L) (i := L.length - 1) (by omega))
    omega
  · obtain rfl : j = L.length - 1 := by omega
    omega

/-- A part of the positions from lo to hi. -/
def part (s : Sd) (lo hi : Int) : Pt := ⟨lo, s.d.extract lo.toNat (max lo (min (hi + 1) s.d.size)).toNat, decide (hi = s.d.size)⟩
def next (s : Sd) (k : Int) : Sd × Pt × Bool :=
  match s.L with
  | r :: _ =>
    let hi := if r.hi < s.d.size ∨ r.hi - r.lo > k then min r.hi (r.lo + k - 1) else r.hi
    ({ s with L := remove s.L r.lo hi }, part s r.lo hi, true)
  | [] =>
    let e := min (s.d.size : Int) (min s.l (s.n + k))
    let e' := if s.f = true ∧ e = s.d.size then e + 1 else e
    if e' ≤ s.n then (s, pt0, false) else ({ s with n := e' }, part s s.n (e' - 1), true)
/-- The program's way. -/
def nextI (s : Sd) (k : Int) : Sd × Pt × Bool :=
  let first : Int := match s.L with
    | r :: _ => r.lo
    | [] => s.n
  let last : Int := match s.L with
    | r :: _ => r.hi
    | [] => s.pos - 1
  let stop0 := min (last + 1) (s.d.size : Int)
  let stop : Int := match s.L with
    | _ :: _ => stop0
    | [] => min stop0 s.l
  let e := max first (min stop (first + k))
  let fin : Bool := decide (last = s.d.size ∧ e = s.d.size ∧ first ≤ last)
  if e = first ∧ fin = false then (s, pt0, false)
  else
    let p : Pt := ⟨first, s.d.extract first.toNat e.toNat, fin⟩
    match s.L with
    | _ :: _ => ({ s with L := remove s.L first p.last }, p, true)
    | [] => ({ s with n := p.last + 1 }, p, true)

theorem size_part {d : ByteArray} {a b : Int} (h0 : 0 ≤ a) (h : b ≤ d.size) (hab : a ≤ b) : ((d.extract a.toNat b.toNat).size : Int) = b - a := by
  rw [ByteArray.size_extract]
  omega
theorem SV.lost {s : Sd} (h : SV s) {r : Rg} (hr : r ∈ s.L) : 0 ≤ r.lo ∧ r.lo ≤ r.hi ∧ r.hi < s.n ∧ r.hi ≤ s.d.size := by
  have h1 := (h.b.2.2 r hr).1
  have h2 := h.b.2.1.1 r hr
  have h3 := h.bLt _ (mem_hi h.b.2.1 hr)
  have h4 := h.n1
  have h5 := pos_le s
  omega
theorem next_eq {s : Sd} {k : Int} (h : SV s) (hk : 1 ≤ k) : nextI s k = next s k := by
  obtain ⟨d, f, l, n, A, L⟩ := s
  have hn := h.n1
  have hlim := h.lim
  have hn0 := h.n0
  have hl := h.len
  have hlost := fun r hr => h.lost (r := r) hr
  clear h
  unfold Sd.pos at hn
  dsimp only at hn hlim hn0 hl hlost
  cases L with
  | cons r L =>
    obtain ⟨h1, h2, h3, h4⟩ := hlost r List.mem_cons_self
    unfold nextI next
    dsimp only
    by_cases hc : r.hi < (d.size : Int) ∨ r.hi - r.lo > k
    · rw [if_pos hc]
      have e1 : max r.lo (min (min (r.hi + 1) (d.size : Int)) (r.lo + k)) = min r.hi (r.lo + k - 1) + 1 := by omega
      have e2 : decide (r.hi = (d.size : Int) ∧ min r.hi (r.lo + k - 1) + 1 = (d.size : Int) ∧ r.lo ≤ r.hi) = false := decide_eq_false (by omega)
      rw [e1, e2, if_neg (by omega)]
      unfold part Pt.last
      dsimp only
      have e3 : max r.lo (min (min r.hi (r.lo + k - 1) + 1) (d.size : Int)) = min r.hi (r.lo + k - 1) + 1 := by omega
      have e4 : decide (min r.hi (r.lo + k - 1) = (d.size : Int)) = false := decide_eq_false (by omega)
      rw [e3, e4, if_neg (by decide), size_part h1 (by omega) (by omega), show r.lo + (min r.hi (r.lo + k - 1) + 1 - r.lo) - 1 = min r.hi (r.lo + k - 1) from by omega]
    · rw [if_neg hc]
      have e0 : r.hi = (d.size : Int) := by omega
      have e1 : max r.lo (min (min (r.hi + 1) (d.size : Int)) (r.lo + k)) = d.size := by omega
      have e2 : decide (r.hi = (d.size : Int) ∧ (d.size : Int) = (d.size : Int) ∧ r.lo ≤ r.hi) = true := decide_eq_true (by omega)
      rw [e1, e2, if_neg (by simp)]
      unfold part Pt.last
      dsimp only
      have e3 : max r.lo (min (r.hi + 1) (d.size : Int)) = d.size := by omega
      have e4 : decide (r.hi = (d.size : Int)) = true := decide_eq_true e0
      rw [e3, e4, if_pos rfl, size_part h1 (by omega) (by omega), show r.lo + ((d.size : Int) - r.lo) = r.hi from by omega]
  | nil =>
    unfold nextI next Sd.pos
    dsimp only
    cases f with
    | true =>
      simp only [if_true, true_and] at hn ⊢
      rw [show min ((d.size : Int) + 1 - 1 + 1) (d.size : Int) = d.size from by omega]
      by_cases hE : min (d.size : Int) (min l (n + k)) = (d.size : Int)
      · rw [if_pos hE]
        have e1 : max n (min (min (d.size : Int) l) (n + k)) = max n d.size := by omega
        rw [e1, hE]
        by_cases hnd : n ≤ d.size
        · have e2 : decide ((d.size : Int) + 1 - 1 = (d.size : Int) ∧ max n (d.size : Int) = (d.size : Int) ∧ n ≤ (d.size : Int) + 1 - 1) = true := decide_eq_true (by omega)
          rw [e2, if_neg (by simp), if_neg (by omega)]
          unfold part Pt.last
          dsimp only
          have e3 : decide ((d.size : Int) + 1 - 1 = (d.size : Int)) = true := decide_eq_true (by omega)
          rw [e3, if_pos rfl, size_part hn0 (by omega) (by omega), show n + (max n (d.size : Int) - n) + 1 = (d.size : Int) + 1 from by omega, show max n (min ((d.size : Int) + 1 - 1 + 1) (d.size : Int)) = max n d.size from by omega]
        · have e2 : decide ((d.size : Int) + 1 - 1 = (d.size : Int) ∧ max n (d.size : Int) = (d.size : Int) ∧ n ≤ (d.size : Int) + 1 - 1) = false := decide_eq_false (by omega)
          rw [e2, if_pos ⟨by omega, rfl⟩, if_pos (by omega)]
      · rw [if_neg hE]
        have e2 : decide ((d.size : Int) + 1 - 1 = (d.size : Int) ∧ max n (min (min (d.size : Int) l) (n + k)) = (d.size : Int) ∧ n ≤ (d.size : Int) + 1 - 1) = false := decide_eq_false (by omega)
        rw [e2]
        by_cases he : min (d.size : Int) (min l (n + k)) ≤ n
        · rw [if_pos ⟨by omega, rfl⟩, if_pos he]
        · rw [if_neg (by omega), if_neg he]
          unfold part Pt.last
          dsimp only
          have e3 : decide (min (d.size : Int) (min l (n + k)) - 1 = (d.size : Int)) = false := decide_eq_false (by omega)
          have e4 : max n (min (min (d.size : Int) l) (n + k)) = min (d.size : Int) (min l (n + k)) := by omega
          have e5 : max n (min (min (d.size : Int) (min l (n + k)) - 1 + 1) (d.size : Int)) = min (d.size : Int) (min l (n + k)) := by omega
          rw [e4, e5, e3, if_neg (by decide), size_part hn0 (by omega) (by omega), show n + (min (d.size : Int) (min l (n + k)) - n) - 1 + 1 = min (d.size : Int) (min l (n + k)) from by omega]
    | false =>
      simp only [Bool.false_eq_true, if_false, false_and] at hn ⊢
      have e2 : decide ((d.size : Int) - 1 = (d.size : Int) ∧ max n (min (min (min ((d.size : Int) - 1 + 1) (d.size : Int)) l) (n + k)) = (d.size : Int) ∧ n ≤ (d.size : Int) - 1) = false := decide_eq_false (by omega)
      rw [e2]
      by_cases he : min (d.size : Int) (min l (n + k)) ≤ n
      · rw [if_pos ⟨by omega, rfl⟩, if_pos he]
      · rw [if_neg (by omega), if_neg he]
        unfold part Pt.last
        dsimp only
        have e3 : decide (min (d.size : Int) (min l (n + k)) - 1 = (d.size : Int)) = false := decide_eq_false (by omega)
        have e4 : max n (min (min (min ((d.size : Int) - 1 + 1) (d.size : Int)) l) (n + k)) = min (d.size : Int) (min l (n + k)) := by omega
        have e5 : max n (min (min (d.size : Int) (min l (n + k)) - 1 + 1) (d.size : Int)) = min (d.size : Int) (min l (n + k)) := by omega
        rw [e4, e5, e3, if_neg (by decide), size_part hn0 (by omega) (by omega), show n + (min (d.size : Int) (min l (n + k)) - n) - 1 + 1 = min (d.size : Int) (min l (n + k)) from by omega]

/-- The part was sent. -/
structure Sent (s : Sd) (p : Pt) : Prop where
  o0 : 0 ≤ p.o
  o1 : p.o ≤ 30
  lo : p.o ≤ p.last
  hi : p.last < s.n
  fit : p.o + p.d.size ≤ s.d.size
  data : s.d.extract p.o.toNat (p.o.toNat + p.d.size) = p.d
  fin : p.f = true → s.f = true ∧ p.o + p.d.size = s.d.size
noncomputable def sentB (s : Sd) (p : Pt) : Bool := @decide (Sent s p) (Classical.propDecidable _)
theorem sentB_iff {s : Sd} {p : Pt} : sentB s p = true ↔ Sent s p := by unfold sentB; exact @decide_eq_true_iff _ (Classical.propDecidable _)
theorem sentB_not {s : Sd} {p : Pt} (h : Sent s p → False) : sentB s p = false := by
  cases hb : sentB s p with
  | false => rfl
  | true => exact absurd (sentB_iff.1 hb) h
def ack (s : Sd) (p : Pt) : Sd := { s with A := add s.A p.o p.last, L := remove s.L p.o p.last }
/-- The positions from i on, m of them, that were not acknowledged are lost. -/
def lose (A : List Rg) : Nat → Int → List Rg → List Rg
  | 0, _, L => L
  | m + 1, i, L => lose A m (i + 1) (if memB A i = true then L else add L i i)
def loss (s : Sd) (p : Pt) : Sd := { s with L := lose s.A (p.last + 1 - p.o).toNat p.o s.L }

theorem lose_canon (A : List Rg) : ∀ (m : Nat) (i : Int) (L : List Rg), Canon L →
    Canon (lose A m i L) ∧ ∀ x, memB (lose A m i L) x = (memB L x || (decide (i ≤ x ∧ x < i + m) && !memB A x))
  | 0, i, L, hc => ⟨hc, fun x => by
      show memB L x = _
      rw [decide_eq_false (by omega)]
      simp⟩
  | m + 1, i, L, hc => by
    unfold lose
    by_cases ha : memB A i = true
    · rw [if_pos ha]
      obtain ⟨h1, h2⟩ := lose_canon A m (i + 1) L hc
      refine ⟨h1, fun x => ?_⟩
      rw [h2]
      congr 1
      by_cases hx : x = i
      · subst hx; rw [ha]; simp
      · congr 1
        rw [Bool.eq_iff_iff, decide_eq_true_iff, decide_eq_true_iff]
        omega
    · rw [if_neg ha]
      obtain ⟨c1, c2, _⟩ := add_canon L i i hc (Int.le_refl _)
      obtain ⟨h1, h2⟩ := lose_canon A m (i + 1) _ c1
      refine ⟨h1, fun x => ?_⟩
      rw [h2, c2]
      by_cases hx : x = i
      · subst hx
        have : memB A x = false := by simpa using ha
        rw [this, decide_eq_true (show x ≤ x ∧ x ≤ x from by omega), decide_eq_true (show x ≤ x ∧ x < x + ((m + 1 : Nat) : Int) from by omega)]
        simp
      · rw [decide_eq_false (show ¬ (i ≤ x ∧ x ≤ i) from by omega), Bool.false_or]
        congr 2
        rw [Bool.eq_iff_iff, decide_eq_true_iff, decide_eq_true_iff]
        omega

theorem rv_below {L : List Rg} {n : Int} (hc : Canon L) (h : ∀ i, memB L i = true → 0 ≤ i ∧ i < n) (hn : n ≤ 31) : RV L := by
  have hb : ∀ r, r ∈ L → 0 ≤ r.lo ∧ r.hi < n := fun r hr => ⟨(h _ (mem_lo hc hr)).1, (h _ (mem_hi hc hr)).2⟩
  exact ⟨canon_few16 hc hb hn, hc, fun r hr => ⟨(hb r hr).1, by have := (hb r hr).2; omega⟩⟩
theorem mem0 {L : List Rg} (h : RV L) {i : Int} (hm : memB L i = true) : 0 ≤ i := (mem_range h.2.2 hm).1

theorem SV.ack {s : Sd} {p : Pt} (h : SV s) (hp : Sent s p) : SV (ack s p) := by
  obtain ⟨a1, a2, _⟩ := add_canon s.A p.o p.last h.a.2.1 hp.lo
  obtain ⟨b1, b2, _⟩ := remove_canon (lo := p.o) (hi := p.last) h.b.2.1 hp.lo
  have hn := h.n31
  have ha : ∀ i, memB (add s.A p.o p.last) i = true → 0 ≤ i ∧ i < s.n := fun i hi => by
    rw [a2, Bool.or_eq_true, decide_eq_true_iff] at hi
    rcases hi with e | e
    · have := hp.o0; have := hp.hi; omega
    · exact ⟨mem0 h.a e, h.aLt i e⟩
  have hb : ∀ i, memB (remove s.L p.o p.last) i = true → 0 ≤ i ∧ i < s.n := fun i hi => by
    rw [b2, Bool.and_eq_true] at hi
    exact ⟨mem0 h.b hi.1, h.bLt i hi.1⟩
  exact ⟨h.len, h.l0, h.l1, h.n0, h.n1, h.lim, rv_below a1 ha hn, rv_below b1 hb hn, fun i hi => (ha i hi).2, fun i hi => (hb i hi).2, fun i h1 h2 => by
    replace h1 : memB (add s.A p.o p.last) i = true := h1
    replace h2 : memB (remove s.L p.o p.last) i = true := h2
    rw [a2, Bool.or_eq_true] at h1
    rw [b2, Bool.and_eq_true] at h2
    rcases h1 with e | e
    · rw [e] at h2; exact absurd h2.2 (by decide)
    · exact h.apart i e h2.1⟩
theorem SV.loss {s : Sd} {p : Pt} (h : SV s) (hp : Sent s p) : SV (loss s p) := by
  obtain ⟨b1, b2⟩ := lose_canon s.A (p.last + 1 - p.o).toNat p.o s.L h.b.2.1
  have hn := h.n31
  have h1 := hp.o0
  have h2 := hp.hi
  have h3 := hp.lo
  have hb : ∀ i, memB (lose s.A (p.last + 1 - p.o).toNat p.o s.L) i = true → 0 ≤ i ∧ i < s.n := fun i hi => by
    rw [b2, Bool.or_eq_true, Bool.and_eq_true, decide_eq_true_iff] at hi
    rcases hi with e | e
    · exact ⟨mem0 h.b e, h.bLt i e⟩
    · omega
  exact ⟨h.len, h.l0, h.l1, h.n0, h.n1, h.lim, h.a, rv_below b1 hb hn, h.aLt, fun i hi => (hb i hi).2, fun i h1 h2 => by
    replace h2 : memB (lose s.A (p.last + 1 - p.o).toNat p.o s.L) i = true := h2
    rw [b2, Bool.or_eq_true, Bool.and_eq_true] at h2
    rcases h2 with e | e
    · exact h.apart i h1 e
    · rw [show memB s.A i = true from h1] at e; exact absurd e.2 (by decide)⟩

end Go.Proofs.Ytmkmaeblnnfheaa
/- Ranges in memory: two cells each. -/
namespace Go.Proofs.Ytmkmaeblnnfheaa
open Go.RowKit

theorem info_rng : (Try.prog.info? 40).map (fun i => (i.zero, i.size, i.bytes)) = some (some (.agg #[.int .i64 0, .int .i64 0]), 2, 16) := by kernel_rfl
theorem info_parts {T : TypeId} {z : Value} {k b : Nat} (h : (Try.prog.info? T).map (fun i => (i.zero, i.size, i.bytes)) = some (some z, k, b)) : ∃ i0, Try.prog.info? T = some i0 ∧ i0.zero = some z ∧ i0.size = k ∧ i0.bytes = b := by
  rcases hx : Try.prog.info? T with _ | i
  · rw [hx] at h; cases h
  · rw [hx] at h
    injection h with h
    injection h with h1 h2
    injection h2 with h2 h3
    exact ⟨i, rfl, h1, h2, h3⟩

def rcells (L : List Rg) : List Value := L.flatMap fun o => [.int .i64 o.lo, .int .i64 o.hi]
theorem rcells_cons (o : Rg) (L : List Rg) : rcells (o :: L) = .int .i64 o.lo :: .int .i64 o.hi :: rcells L := by unfold rcells; simp
theorem rcells_append (L M : List Rg) : rcells (L ++ M) = rcells L ++ rcells M := by unfold rcells; simp
theorem rcells_len : ∀ L : List Rg, (rcells L).length = L.length * 2
  | [] => rfl
  | o :: L => by rw [rcells_cons]; simp [rcells_len L]; omega
theorem rcells_at : ∀ {L : List Rg} {i : Nat}, i < L.length → (rcells L)[i * 2]? = some (.int .i64 (rth L i).lo) ∧ (rcells L)[i * 2 + 1]? = some (.int .i64 (rth L i).hi)
  | [], i, h => by simp at h
  | o :: L, 0, _ => by rw [rcells_cons]; exact ⟨rfl, rfl⟩
  | o :: L, i + 1, h => by
    have ih := rcells_at (L := L) (i := i) (by simpa using h)
    have e : rth (o :: L) (i + 1) = rth L i := rfl
    rw [rcells_cons, e, show (i + 1) * 2 = i * 2 + 1 + 1 from by omega]
    exact ih
theorem rcells_one (L : List Rg) : ∀ u, u ∈ rcells L → u.oneCell' = true := by
  induction L with
  | nil => intro u hu; simp [rcells] at hu
  | cons c L ih =>
    intro u hu
    rw [rcells_cons] at hu
    rcases List.mem_cons.1 hu with rfl | hu
    · rfl
    rcases List.mem_cons.1 hu with rfl | hu
    · rfl
    exact ih u hu
theorem rcells_drop : ∀ (L : List Rg) (k : Nat), (rcells L).drop (k * 2) = rcells (L.drop k)
  | L, 0 => by simp
  | [], k + 1 => by simp [rcells]
  | o :: L, k + 1 => by
    rw [rcells_cons, show (k + 1) * 2 = k * 2 + 1 + 1 from by omega]
    simpa using rcells_drop L k
theorem rth_drop {L : List Rg} {k i : Nat} (h : k + i < L.length) : rth (L.drop k) i = rth L (k + i) := by
  rw [rth_eq h, rth_eq (by rw [List.length_drop]; omega)]
  simp

/-- The slice at A of n ranges reads L. -/
def RngAt (w : World) (A : Option Addr) (n : Nat) (L : List Rg) : Prop :=
  L.length = n ∧ (0 < n → ∃ b off, A = some ⟨b, off, none⟩ ∧ b < w.heap.size ∧ ∀ i, i < n → w.cell? ⟨b, off + i * 2, none⟩ = some (.int .i64 (rth L i).lo) ∧ w.cell? ⟨b, off + i * 2 + 1, none⟩ = some (.int .i64 (rth L i).hi))
theorem RngAt.below {w w' : World} {A : Option Addr} {n : Nat} {L : List Rg} (h : RngAt w A n L) (hb : Below w.heap.size w w') : RngAt w' A n L :=
  ⟨h.1, fun hn => by
    obtain ⟨b, off, rfl, hlt, hc⟩ := h.2 hn
    refine ⟨b, off, rfl, Nat.lt_of_lt_of_le hlt hb.size, fun i hi => ?_⟩
    obtain ⟨h0, h1⟩ := hc i hi
    exact ⟨(hb.cell (p := ⟨b, _, none⟩) hlt).trans h0, (hb.cell (p := ⟨b, _, none⟩) hlt).trans h1⟩⟩
theorem RngAt.nil (w : World) (A : Option Addr) : RngAt w A 0 [] := ⟨rfl, fun h => by omega⟩
theorem RngAt.alloc {w : World} {A : Option Addr} {n : Nat} {L : List Rg} (h : RngAt w A n L) (o : Obj) : RngAt (w.alloc o) A n L := h.below ((Below.refl _ _).alloc (Nat.le_refl _) o)
theorem RngAt.drew {w : World} {A : Option Addr} {n : Nat} {L : List Rg} (h : RngAt w A n L) : RngAt w.drew A n L := h

def RngIn (w : World) (B S : Nat) (A : Option Addr) (n c : Nat) (L : List Rg) : Prop := L.length = n ∧ RowIn 40 2 w B S A n c (rcells L)
section
variable {w w' : World} {B S B' S' : Nat} {A : Option Addr} {n c : Nat} {L : List Rg}
theorem RngIn.cap (h : RngIn w B S A n c L) : n ≤ c ∧ c ≤ maxLen := h.2.cap
theorem RngIn.touch (h : RngIn w B S A n c L) (t : Touch w w' B' S') (hd : S ≤ B' ∨ S' ≤ B) : RngIn w' B S A n c L := ⟨h.1, h.2.touch t hd⟩
theorem RngIn.below (h : RngIn w B S A n c L) (hb : Below w.heap.size w w') : RngIn w' B S A n c L := ⟨h.1, h.2.below hb⟩
theorem RngIn.alloc (h : RngIn w B S A n c L) (o : Obj) : RngIn (w.alloc o) B S A n c L := ⟨h.1, h.2.alloc o⟩
theorem RngIn.drew (h : RngIn w B S A n c L) : RngIn w.drew B S A n c L := h
theorem RngIn.drewN (h : RngIn w B S A n c L) (m : Nat) : RngIn (w.drewN m) B S A n c L := h
theorem RngIn.mono (h : RngIn w B S A n c L) (h1 : B' ≤ B) (h2 : S ≤ S') : RngIn w B' S' A n c L := ⟨h.1, h.2.mono h1 h2⟩
theorem RngIn.empty (w : World) (B S : Nat) (A : Option Addr) : RngIn w B S A 0 0 [] := ⟨rfl, RowIn.empty _ _ _ _ _⟩
theorem RngIn.at_ (h : RngIn w B S A n c L) (hn : 0 < n) : ∃ g, A = some ⟨g, 0, none⟩ ∧ B ≤ g ∧ g < S ∧ g < w.heap.size ∧ (∀ j, w.frozen? ⟨g, j, none⟩ = false) ∧
    ∀ i, i < n → w.cell? ⟨g, i * 2, none⟩ = some (.int .i64 (rth L i).lo) ∧ w.cell? ⟨g, i * 2 + 1, none⟩ = some (.int .i64 (rth L i).hi) := by
  obtain ⟨g, rfl, hb, hs, hw, hc, hf⟩ := h.2.blk hn
  refine ⟨g, rfl, hb, hs, hw, hf, fun i hi => ?_⟩
  obtain ⟨e1, e2⟩ := rcells_at (L := L) (i := i) (by rw [h.1]; exact hi)
  exact ⟨(hc _ (by omega)).trans e1, (hc _ (by omega)).trans e2⟩
theorem RngIn.reads (h : RngIn w B S A n c L) : RngAt w A n L :=
  ⟨h.1, fun hn => by
    obtain ⟨g, rfl, _, _, hw, _, hc⟩ := h.at_ hn
    exact ⟨g, 0, rfl, hw, fun i hi => by rw [Nat.zero_add]; exact hc i hi⟩⟩
theorem RngIn.of_own {v : Value} (h : w.ownsRow B 40 2 v n (rcells L)) : ∃ A c, v = .slice A n c ∧ RngIn w B w.heap.size A n c L := by
  obtain ⟨A, c, e, hr⟩ := RowIn.of_own h
  have hl := hr.1
  rw [rcells_len] at hl
  exact ⟨A, c, e, by omega, hr⟩
end

/-- A new slice that reads L was handed back. -/
def GotRng (w : World) (L : List Rg) (e : Ending) (w' : World) : Prop :=
  ∃ A c, e = .returned (.slice A L.length c) ∧ RngIn w' w.heap.size w'.heap.size A L.length c L ∧ Below w.heap.size w w'

section
variable {ops : Array Oper} {rest : List Oper} {o : Oper} {a : Act} {Q : Exit → Act → World → Prop}
/-- append to a slice literal without elements: a copy. -/
theorem wpList_copy_rng (w : World) (hg : o.guard = none) (s x : Operand) (hop : o.op = Op.call { callee := Callee.builtin Builtin.append, args := #[s, x], argTypes := #[23, 23] })
    {base g n c : Nat} {A : Option Addr} {L : List Rg} (hs : a.eval s = .slice (some ⟨g, 0, none⟩) 0 0) (hown : w.ownsRow base 40 2 (.slice (some ⟨g, 0, none⟩) 0 0) 0 []) (hbase : base ≤ w.heap.size)
    (hx : a.eval x = .slice A n c) (h : RngAt w A n L) (hnone : A = none → c = 0) (hn : n ≤ 2000000)
    (hK : ∀ A' c' w', RngIn w' base w'.heap.size A' n c' L → w.grownBy w' (some g) → wpList Try.prog ops Q rest (a.put o.dst (.slice A' n c')) w') :
    wpList Try.prog ops Q (o :: rest) a w := by
  obtain ⟨i0, hi0, hz0, hz1, hz2⟩ := info_parts info_rng
  cases A with
  | none =>
    have hn0 : n = 0 := by
      rcases Nat.eq_zero_or_pos n with e | e
      · exact e
      · obtain ⟨_, _, e', _⟩ := h.2 e
        cases e'
    subst hn0
    obtain rfl := hnone rfl
    obtain rfl : L = [] := List.eq_nil_of_length_eq_zero h.1
    refine wpList_append_fits_any w hg s x _ hop base 40 i0 2 Try.underlying23 hi0 hz1 g 0 0 [] hs hown none 0 0 [] hx rfl (fun _ => ⟨rfl, rfl⟩) (fun _ e => by cases e) (fun _ e => by cases e) (Nat.le_refl _) fun w' _ hgr => ?_
    exact hK _ _ _ (RngIn.empty _ _ _ _) hgr
  | some x0 =>
    have hlen : (rcells L).length = n * 2 := by rw [rcells_len, h.1]
    refine wpList_append_own w hg s x _ hop base 40 i0 (.agg #[.int .i64 0, .int .i64 0]) 2 16 Try.underlying23 hi0 hz0 hz1 hz2 rfl (by decide) _ _ _ hs hown x0 n c (rcells L) hx hlen ?_ (rcells_one L) (by unfold maxLen; omega) (by omega) hbase fun v' w' hown' hgr _ => ?_
    · intro j u hj
      have hjl : j < n * 2 := by
        have := (List.getElem?_eq_some_iff.1 hj).1
        omega
      obtain ⟨b, off, e, _, hc⟩ := h.2 (by omega)
      cases e
      rw [Addr.add_lit]
      obtain ⟨h0, h1⟩ := hc (j / 2) (by omega)
      obtain ⟨e0, e1⟩ := rcells_at (L := L) (i := j / 2) (by rw [h.1]; omega)
      rcases (show j = j / 2 * 2 ∨ j = j / 2 * 2 + 1 from by omega) with e | e
      · rw [e] at hj ⊢
        rw [e0] at hj
        rw [← hj]
        exact h0
      · rw [e] at hj ⊢
        rw [e1] at hj
        rw [← hj, ← Nat.add_assoc]
        exact h1
    · obtain ⟨A', c', rfl, hr⟩ := RngIn.of_own (n := n) (by simpa using hown')
      exact hK _ _ _ hr hgr
/-- Ranges that are read are appended. -/
theorem wpList_more_rng (w : World) (hg : o.guard = none) (s x : Operand) (hop : o.op = Op.call { callee := Callee.builtin Builtin.append, args := #[s, x], argTypes := #[23, 23] })
    {B S n c m cx : Nat} {A Ax : Option Addr} {L X : List Rg} (hs : a.eval s = .slice A n c) (h : RngIn w B S A n c L) (hB : B ≤ w.heap.size) (hn : n ≤ 2000000) (hm : m ≤ 2000000)
    (hx : a.eval x = .slice Ax m cx) (hX : RngAt w Ax m X) (hpos : 0 < m)
    (hK : ∀ A' c' w', RngIn w' B w'.heap.size A' (n + m) c' (L ++ X) → Touch w w' B S → wpList Try.prog ops Q rest (a.put o.dst (.slice A' (n + m) c')) w') :
    wpList Try.prog ops Q (o :: rest) a w := by
  obtain ⟨i0, hi0, hz0, hz1, hz2⟩ := info_parts info_rng
  obtain ⟨gx, offx, rfl, _, hcx⟩ := hX.2 hpos
  have hlenX : (rcells X).length = m * 2 := by rw [rcells_len, hX.1]
  have hnews : ∀ j u, (rcells X)[j]? = some u → w.cell? ((⟨gx, offx, none⟩ : Addr).add j) = some u := by
    intro j u hj
    have hjl : j < m * 2 := by
      have := (List.getElem?_eq_some_iff.1 hj).1
      omega
    rw [Addr.add_lit]
    obtain ⟨h0, h1⟩ := hcx (j / 2) (by omega)
    obtain ⟨e0, e1⟩ := rcells_at (L := X) (i := j / 2) (by rw [hX.1]; omega)
    rcases (show j = j / 2 * 2 ∨ j = j / 2 * 2 + 1 from by omega) with e | e
    · rw [e] at hj ⊢
      rw [e0] at hj
      rw [← hj]
      exact h0
    · rw [e] at hj ⊢
      rw [e1] at hj
      rw [← hj, ← Nat.add_assoc]
      exact h1
  rcases h.2.2 with ⟨rfl, rfl⟩ | ⟨ho, g, rfl, h1, h2, h3⟩
  · obtain rfl : L = [] := List.eq_nil_of_length_eq_zero h.1
    refine wpList_append_grows w hg s x _ hop 40 i0 (.agg #[.int .i64 0, .int .i64 0]) 2 16 Try.underlying23 hi0 hz0 hz1 hz2 rfl (by decide) A 0 0 [] hs (fun _ => ⟨rfl, rfl⟩) rfl (fun _ _ _ _ e => by simp at e) ⟨gx, offx, none⟩ m cx (rcells X) hx hlenX hnews (rcells_one X) (by omega) (by unfold maxLen; omega) (by omega) fun v' w' hown' hgr => ?_
    obtain ⟨A', c', rfl, hr⟩ := RngIn.of_own (n := 0 + m) (L := X) (by simpa using hown')
    exact hK _ _ _ (hr.mono hB (Nat.le_refl _)) ⟨hgr.os, hgr.tape, hgr.output, hgr.size, fun k hk _ => hgr.block k hk (by simp)⟩
  · refine wpList_append_own w hg s x _ hop B 40 i0 (.agg #[.int .i64 0, .int .i64 0]) 2 16 Try.underlying23 hi0 hz0 hz1 hz2 rfl (by decide) _ _ _ hs ho ⟨gx, offx, none⟩ m cx (rcells X) hx hlenX hnews (rcells_one X) (by unfold maxLen; omega) (by omega) hB fun v' w' hown' hgr _ => ?_
    rw [← rcells_append] at hown'
    obtain ⟨A', c', rfl, hr⟩ := RngIn.of_own hown'
    exact hK _ _ _ hr ⟨hgr.os, hgr.tape, hgr.output, hgr.size, fun k hk hb => hgr.block k hk (by simp [Value.ownBlock]; omega)⟩
/-- Ranges that are read, perhaps none, are appended to some. -/
theorem wpList_tail_rng (w : World) (hg : o.guard = none) (s x : Operand) (hop : o.op = Op.call { callee := Callee.builtin Builtin.append, args := #[s, x], argTypes := #[23, 23] })
    {B S n c m cx : Nat} {A Ax : Option Addr} {L X : List Rg} (hs : a.eval s = .slice A n c) (h : RngIn w B S A n c L) (hB : B ≤ w.heap.size) (hn : n ≤ 2000000) (hm : m ≤ 2000000)
    (hx : a.eval x = .slice Ax m cx) (hX : RngAt w Ax m X) (hnone : Ax = none → cx = 0) (hpos : 0 < n)
    (hK : ∀ A' c' w', RngIn w' B w'.heap.size A' (n + m) c' (L ++ X) → Touch w w' B S → wpList Try.prog ops Q rest (a.put o.dst (.slice A' (n + m) c')) w') :
    wpList Try.prog ops Q (o :: rest) a w := by
  rcases Nat.eq_zero_or_pos m with rfl | hm0
  · obtain rfl : X = [] := List.eq_nil_of_length_eq_zero hX.1
    obtain ⟨i0, hi0, hz0, hz1, hz2⟩ := info_parts info_rng
    obtain ⟨g, rfl, h1, h2, h3, _⟩ := h.at_ hpos
    refine wpList_append_fits_any w hg s x _ hop B 40 i0 2 Try.underlying23 hi0 hz1 g n c (rcells L) hs (h.2.own hpos) Ax 0 cx [] hx rfl (fun e => ⟨rfl, hnone e⟩) (fun _ _ j u e => by simp at e) (fun _ e => by cases e) (by have := h.cap; omega) fun w' hown' hgr => ?_
    obtain ⟨A', c', e, hr⟩ := RngIn.of_own (n := n + 0) (L := L) (by simpa using hown')
    cases e
    rw [← List.append_nil L] at hr
    exact hK _ _ _ hr ⟨hgr.os, hgr.tape, hgr.output, hgr.size, fun k hk hb => hgr.block k hk (by intro e; injection e with e; omega)⟩
  · exact wpList_more_rng w hg s x hop hs h hB hn hm hx hX hm0 hK
/-- One range is appended. -/
theorem wpList_snoc_rng (w : World) (hg : o.guard = none) (s x : Operand) (hop : o.op = Op.call { callee := Callee.builtin Builtin.append, args := #[s, x], argTypes := #[23, 23] })
    {B S n c gx : Nat} {A : Option Addr} {L : List Rg} (y : Rg) (hs : a.eval s = .slice A n c) (h : RngIn w B S A n c L) (hB : B ≤ w.heap.size) (hn : n ≤ 2000000) (hgx : gx < w.heap.size)
    (hx : a.eval x = .slice (some ⟨gx, 0, none⟩) 1 1) (hc0 : w.cell? ⟨gx, 0, none⟩ = some (.int .i64 y.lo)) (hc1 : w.cell? ⟨gx, 1, none⟩ = some (.int .i64 y.hi))
    (hK : ∀ A' c' w', RngIn w' B w'.heap.size A' (n + 1) c' (L ++ [y]) → Touch w w' B S → wpList Try.prog ops Q rest (a.put o.dst (.slice A' (n + 1) c')) w') :
    wpList Try.prog ops Q (o :: rest) a w :=
  wpList_more_rng w hg s x hop hs h hB hn (by omega) hx (X := [y]) ⟨rfl, fun _ => ⟨gx, 0, rfl, hgx, fun i hi => by
    obtain rfl : i = 0 := by omega
    exact ⟨hc0, hc1⟩⟩⟩ (by omega) hK
end

end Go.Proofs.Ytmkmaeblnnfheaa
/- What next, ack and loss do, plain. -/
namespace Go.Proofs.Ytmkmaeblnnfheaa
open Go.RowKit

theorem part_last {s : Sd} {lo hi : Int} (h0 : 0 ≤ lo) (h1 : lo ≤ hi) (h2 : hi ≤ s.d.size) :
    (part s lo hi).last = hi ∧ (part s lo hi).o + (part s lo hi).d.size = min (hi + 1) s.d.size := by
  unfold part Pt.last
  dsimp only
  rw [size_part h0 (by omega) (by omega)]
  by_cases h : hi = s.d.size
  · rw [decide_eq_true h, if_pos rfl]; omega
  · rw [decide_eq_false h, if_neg (by decide)]; omega
theorem part_sent {s t : Sd} {lo hi : Int} (hd : t.d = s.d) (hf : t.f = s.f) (h0 : 0 ≤ lo) (h1 : lo ≤ hi) (h2 : hi ≤ s.d.size) (h30 : s.d.size ≤ 30) (hn : hi < t.n) (he : hi = s.d.size → s.f = true) :
    Sent t (part s lo hi) := by
  obtain ⟨e1, e2⟩ := part_last h0 h1 h2
  have ho : (part s lo hi).o = lo := rfl
  refine ⟨by omega, by omega, by omega, by omega, by rw [hd]; omega, ?_, fun h => ?_⟩
  · rw [hd, ho]
    have : (part s lo hi).d = s.d.extract lo.toNat (max lo (min (hi + 1) s.d.size)).toNat := rfl
    rw [this]
    congr 1
    rw [ByteArray.size_extract]
    omega
  · have : hi = s.d.size := of_decide_eq_true h
    rw [hd, hf]
    exact ⟨he this, by omega⟩

/-- The three ways of next. -/
inductive Nx (s : Sd) (k : Int) : Prop
  | lost (r : Rg) (T : List Rg) (hi : Int) (hL : s.L = r :: T) (h0 : 0 ≤ r.lo) (h1 : r.lo ≤ hi) (h2 : hi ≤ r.hi) (h3 : r.hi < s.n) (h4 : r.hi ≤ s.d.size) (hk : min (hi + 1) s.d.size - r.lo ≤ k) (he : hi = s.d.size → s.f = true)
      (e : next s k = ({ s with L := remove s.L r.lo hi }, part s r.lo hi, true))
  | none (hL : s.L = []) (h : ¬ (s.n < min (s.d.size : Int) s.l ∨ (s.f = true ∧ s.n = s.d.size ∧ (s.d.size : Int) ≤ s.l))) (e : next s k = (s, pt0, false))
  | new (m : Int) (hL : s.L = []) (h0 : s.n < m) (h1 : m ≤ s.pos) (hk : min m s.d.size - s.n ≤ k) (hl : min m s.d.size ≤ s.l) (he : m - 1 = s.d.size → s.f = true)
      (h : s.n < min (s.d.size : Int) s.l ∨ (s.f = true ∧ s.n = s.d.size ∧ (s.d.size : Int) ≤ s.l))
      (e : next s k = ({ s with n := m }, part s s.n (m - 1), true))
theorem nx_cases {s : Sd} {k : Int} (h : SV s) (hk : 1 ≤ k) : Nx s k := by
  have hpos := h.n1
  have hlim := h.lim
  have hn0 := h.n0
  cases hL : s.L with
  | cons r T =>
    obtain ⟨h1, h2, h3, h4⟩ := h.lost (r := r) (by rw [hL]; exact List.mem_cons_self)
    have hfin : r.hi = s.d.size → s.f = true := fun e => by
      cases hf : s.f with
      | true => rfl
      | false =>
        unfold Sd.pos at hpos
        rw [hf] at hpos
        simp at hpos
        omega
    by_cases hc : r.hi < (s.d.size : Int) ∨ r.hi - r.lo > k
    · refine .lost r T (min r.hi (r.lo + k - 1)) hL h1 (by omega) (by omega) h3 h4 (by omega) (fun e => hfin (by omega)) ?_
      unfold next
      rw [hL]
      dsimp only
      rw [if_pos hc]
    · refine .lost r T r.hi hL h1 (by omega) (by omega) h3 h4 (by omega) hfin ?_
      unfold next
      rw [hL]
      dsimp only
      rw [if_neg hc]
  | nil =>
    have e0 : next s k = (if (if s.f = true ∧ min (s.d.size : Int) (min s.l (s.n + k)) = s.d.size then min (s.d.size : Int) (min s.l (s.n + k)) + 1 else min (s.d.size : Int) (min s.l (s.n + k))) ≤ s.n then (s, pt0, false)
        else ({ s with n := if s.f = true ∧ min (s.d.size : Int) (min s.l (s.n + k)) = s.d.size then min (s.d.size : Int) (min s.l (s.n + k)) + 1 else min (s.d.size : Int) (min s.l (s.n + k)) },
          part s s.n ((if s.f = true ∧ min (s.d.size : Int) (min s.l (s.n + k)) = s.d.size then min (s.d.size : Int) (min s.l (s.n + k)) + 1 else min (s.d.size : Int) (min s.l (s.n + k))) - 1), true)) := by
      conv => lhs; unfold next
      rw [hL]
    unfold Sd.pos at hpos
    by_cases hc : s.f = true ∧ min (s.d.size : Int) (min s.l (s.n + k)) = s.d.size
    · simp only [if_pos hc] at e0
      by_cases hle : min (s.d.size : Int) (min s.l (s.n + k)) + 1 ≤ s.n
      · rw [if_pos hle] at e0
        exact .none hL (by omega) e0
      · rw [if_neg hle] at e0
        rw [if_pos hc.1] at hpos
        exact .new _ hL (by omega) (by unfold Sd.pos; rw [if_pos hc.1]; omega) (by omega) (by omega) (fun _ => hc.1) (by
          rcases (show s.n < (s.d.size : Int) ∨ s.n = (s.d.size : Int) from by omega) with e | e
          · exact .inl (by omega)
          · exact .inr ⟨hc.1, e, by omega⟩) e0
    · simp only [if_neg hc] at e0
      by_cases hle : min (s.d.size : Int) (min s.l (s.n + k)) ≤ s.n
      · rw [if_pos hle] at e0
        refine .none hL ?_ e0
        rintro (h1 | ⟨h1, h2, h3⟩)
        · omega
        · exact hc ⟨h1, by omega⟩
      · rw [if_neg hle] at e0
        exact .new _ hL (by omega) (by have := (pos_le s).1; omega) (by omega) (by omega) (by omega) (.inl (by omega)) e0

theorem remove_sub {L : List Rg} {lo hi n : Int} (h : RV L) (hl : lo ≤ hi) (hn : n ≤ 31) (hlt : ∀ i, memB L i = true → i < n) : RV (remove L lo hi) := by
  obtain ⟨b1, b2, _⟩ := remove_canon (lo := lo) (hi := hi) h.2.1 hl
  exact rv_below b1 (fun i hi => by
    rw [b2, Bool.and_eq_true] at hi
    exact ⟨mem0 h hi.1, hlt i hi.1⟩) hn
theorem SV.remove {s : Sd} {lo hi : Int} (h : SV s) (hl : lo ≤ hi) : SV { s with L := remove s.L lo hi } := by
  obtain ⟨_, b2, _⟩ := remove_canon (lo := lo) (hi := hi) h.b.2.1 hl
  exact ⟨h.len, h.l0, h.l1, h.n0, h.n1, h.lim, h.a, remove_sub h.b hl h.n31 h.bLt, h.aLt, fun i hi => by
    replace hi : memB (Go.Proofs.Ytmkmaeblnnfheaa.remove s.L lo _) i = true := hi
    rw [b2, Bool.and_eq_true] at hi; exact h.bLt i hi.1, fun i h1 h2 => by
    replace h2 : memB (Go.Proofs.Ytmkmaeblnnfheaa.remove s.L lo _) i = true := h2
    rw [b2, Bool.and_eq_true] at h2; exact h.apart i h1 h2.1⟩
theorem SV.upTo {s : Sd} {m : Int} (h : SV s) (h0 : s.n < m) (h1 : m ≤ s.pos) (hl : min m s.d.size ≤ s.l) : SV { s with n := m } :=
  ⟨h.len, h.l0, h.l1, by have := h.n0; show 0 ≤ m; omega, h1, hl, h.a, h.b, fun i hi => by have := h.aLt i hi; show i < m; omega, fun i hi => by have := h.bLt i hi; show i < m; omega, h.apart⟩
/-- What is handed out was sent, is small enough, and the stream is good. -/
theorem next_good {s : Sd} {k : Int} (h : SV s) (hk : 1 ≤ k) : SV (next s k).1 ∧ ((next s k).2.2 = true → Sent (next s k).1 (next s k).2.1 ∧ ((next s k).2.1.d.size : Int) ≤ k ∧ (next s k).2.1.o + (next s k).2.1.d.size ≤ s.l) := by
  have hlim := h.lim
  rcases nx_cases h hk with ⟨r, T, hi, hL, h0, h1, h2, h3, h4, hk', he, e⟩ | ⟨hL, hn, e⟩ | ⟨m, hL, h0, h1, hk', hl, he, hr, e⟩
  · rw [e]
    obtain ⟨e1, e2⟩ := part_last (s := s) h0 h1 (by omega : hi ≤ s.d.size)
    have ho : (part s r.lo hi).o = r.lo := rfl
    exact ⟨h.remove h1, fun _ => ⟨part_sent rfl rfl h0 h1 (by omega) h.len (by show hi < s.n; omega) he, by dsimp only; omega, by dsimp only; omega⟩⟩
  · rw [e]
    exact ⟨h, fun e => by cases e⟩
  · rw [e]
    have := (pos_le s).2
    obtain ⟨e1, e2⟩ := part_last (s := s) (lo := s.n) (hi := m - 1) h.n0 (by omega) (by omega)
    have ho : (part s s.n (m - 1)).o = s.n := rfl
    exact ⟨h.upTo h0 h1 hl, fun _ => ⟨part_sent rfl rfl h.n0 (by omega) (by omega) h.len (by show m - 1 < m; omega) he, by dsimp only; omega, by dsimp only; omega⟩⟩

end Go.Proofs.Ytmkmaeblnnfheaa
/- The laws on next, ack, loss, write, grant, plain. -/
namespace Go.Proofs.Ytmkmaeblnnfheaa
open Go.RowKit

def count (L : List Rg) : Int := (L.map fun r => r.hi - r.lo + 1).foldr (· + ·) 0
theorem count_cons (r : Rg) (L : List Rg) : count (r :: L) = r.hi - r.lo + 1 + count L := rfl
theorem count_snoc (L : List Rg) (r : Rg) : count (L ++ [r]) = count L + (r.hi - r.lo + 1) := by
  induction L with
  | nil => simp [count]
  | cons a L ih => rw [List.cons_append, count_cons, count_cons, ih]; omega
theorem count_le : ∀ (L : List Rg) (x N : Int), Canon L → (∀ r, r ∈ L → x ≤ r.lo ∧ r.hi < N) → x ≤ N → 0 ≤ count L ∧ count L ≤ N - x
  | [], x, N, _, _, h => by simp [count]; omega
  | r :: L, x, N, hc, hb, h => by
    obtain ⟨h1, h2, h3⟩ := canon_cons.1 hc
    have hr := hb r List.mem_cons_self
    rw [count_cons]
    by_cases hL : L = []
    · subst hL; simp [count]; omega
    · have hne : ∃ b, b ∈ L := by cases L with
        | nil => exact absurd rfl hL
        | cons b L => exact ⟨b, List.mem_cons_self⟩
      obtain ⟨b, hb'⟩ := hne
      have := h2 b hb'
      have := h3.1 b hb'
      have := (hb b (List.mem_cons_of_mem _ hb')).2
      have := count_le L (r.hi + 2) N h3 (fun b hb' => ⟨h2 b hb', (hb b (List.mem_cons_of_mem _ hb')).2⟩) (by omega)
      omega
theorem count_full {L : List Rg} {N : Int} (hc : Canon L) (hb : ∀ r, r ∈ L → 0 ≤ r.lo ∧ r.hi < N) (hN : 0 < N) : count L = N ↔ L = [⟨0, N - 1⟩] := by
  constructor
  · intro h
    match L, hc, hb, h with
    | [], _, _, h => simp [count] at h; omega
    | [r], hc, hb, h =>
      have hr := hb r List.mem_cons_self
      simp [count] at h
      have h1 : r.lo = 0 := by omega
      have h2 : r.hi = N - 1 := by omega
      cases r
      simp_all
    | r :: b :: L, hc, hb, h =>
      exfalso
      obtain ⟨h1, h2, h3⟩ := canon_cons.1 hc
      have hr := hb r List.mem_cons_self
      have h4 := h2 b List.mem_cons_self
      have h5 := h3.1 b List.mem_cons_self
      have h6 := (hb b (List.mem_cons_of_mem _ List.mem_cons_self)).2
      have := count_le (b :: L) (r.hi + 2) N h3 (fun b' hb' => ⟨h2 b' hb', (hb b' (List.mem_cons_of_mem _ hb')).2⟩) (by omega)
      rw [count_cons] at h
      omega
  · rintro rfl
    simp [count]
theorem SV.inA {s : Sd} (h : SV s) {r : Rg} (hr : r ∈ s.A) : 0 ≤ r.lo ∧ r.hi < s.n := ⟨(h.a.2.2 r hr).1, h.aLt _ (mem_hi h.a.2.1 hr)⟩
/-- Both ways to tell that all is done. -/
theorem done_eq {s : Sd} (h : SV s) (hf : s.f = true) : count s.A = s.pos ↔ s.A = [⟨0, s.d.size⟩] := by
  have hpos : s.pos = s.d.size + 1 := by unfold Sd.pos; rw [if_pos hf]
  have hn := h.n1
  rw [count_full h.a.2.1 (N := s.pos) (fun r hr => by have := h.inA hr; omega) (by omega), hpos, show (s.d.size : Int) + 1 - 1 = s.d.size from by omega]
noncomputable def doneB (s : Sd) : Bool := okS s && s.f && @decide (s.A = [⟨0, s.d.size⟩]) (Classical.propDecidable _)
theorem doneB_iff {s : Sd} : doneB s = true ↔ SV s ∧ s.f = true ∧ s.A = [⟨0, s.d.size⟩] := by
  unfold doneB
  rw [Bool.and_eq_true, Bool.and_eq_true, okS_iff, @decide_eq_true_iff _ (Classical.propDecidable _), and_assoc]
theorem done_next {s : Sd} (h : doneB s = true) {k : Int} (hk : 1 ≤ k) : s.L = [] ∧ next s k = (s, pt0, false) ∧ ∀ i : Int, 0 ≤ i → i ≤ s.d.size → memB s.A i = true := by
  obtain ⟨hv, hf, hA⟩ := doneB_iff.1 h
  have hmem : ∀ i : Int, 0 ≤ i → i ≤ s.d.size → memB s.A i = true := fun i h0 h1 => memB_iff.2 ⟨_, by rw [hA]; exact List.mem_cons_self, h0, h1⟩
  have hL : s.L = [] := by
    cases hL : s.L with
    | nil => rfl
    | cons r T =>
      exfalso
      have hr : r ∈ s.L := by rw [hL]; exact List.mem_cons_self
      obtain ⟨h0, h1, h2, h3⟩ := hv.lost hr
      exact hv.apart r.lo (hmem _ h0 (by omega)) (mem_lo hv.b.2.1 hr)
  have hn : (s.d.size : Int) < s.n := hv.aLt _ (hmem _ (by omega) (Int.le_refl _))
  refine ⟨hL, ?_, hmem⟩
  rcases nx_cases hv hk with ⟨r, T, hi, hL', _⟩ | ⟨_, _, e⟩ | ⟨m, _, h0, h1, _, _, _, hr, _⟩
  · rw [hL] at hL'; cases hL'
  · exact e
  · exfalso
    rcases hr with e | e <;> omega

/-- Sent speaks of the data, the end and the next position alone. -/
theorem Sent.of {s t : Sd} {p : Pt} (h : Sent s p) (hd : t.d = s.d) (hf : t.f = s.f) (hn : s.n ≤ t.n) : Sent t p :=
  ⟨h.o0, h.o1, h.lo, by have := h.hi; omega, by rw [hd]; exact h.fit, by rw [hd]; exact h.data, by rw [hd, hf]; exact h.fin⟩
theorem canon_add {L : List Rg} {lo hi : Int} (hc : Canon L) (h : lo ≤ hi) : Canon (add L lo hi) := (add_canon L lo hi hc h).1
theorem mem_add {L : List Rg} {lo hi : Int} (hc : Canon L) (h : lo ≤ hi) (n : Int) : memB (add L lo hi) n = ((decide (lo ≤ n ∧ n ≤ hi)) || memB L n) := (add_canon L lo hi hc h).2.1 n
theorem canon_remove {L : List Rg} {lo hi : Int} (hc : Canon L) (h : lo ≤ hi) : Canon (remove L lo hi) := (remove_canon hc h).1
theorem mem_remove {L : List Rg} {lo hi : Int} (hc : Canon L) (h : lo ≤ hi) (n : Int) : memB (remove L lo hi) n = (memB L n && !decide (lo ≤ n ∧ n ≤ hi)) := (remove_canon hc h).2.1 n
theorem add_comm' {L : List Rg} {a b c d : Int} (hc : Canon L) (h1 : a ≤ b) (h2 : c ≤ d) : add (add L a b) c d = add (add L c d) a b :=
  canon_unique _ _ (canon_add (canon_add hc h1) h2) (canon_add (canon_add hc h2) h1) fun n => by
    rw [mem_add (canon_add hc h1) h2, mem_add hc h1, mem_add (canon_add hc h2) h1, mem_add hc h2, ← Bool.or_assoc, ← Bool.or_assoc, Bool.or_comm (decide (c ≤ n ∧ n ≤ d))]
theorem add_twice {L : List Rg} {a b : Int} (hc : Canon L) (h1 : a ≤ b) : add (add L a b) a b = add L a b :=
  canon_unique _ _ (canon_add (canon_add hc h1) h1) (canon_add hc h1) fun n => by
    rw [mem_add (canon_add hc h1) h1, mem_add hc h1, ← Bool.or_assoc, Bool.or_self]
theorem remove_comm' {L : List Rg} {a b c d : Int} (hc : Canon L) (h1 : a ≤ b) (h2 : c ≤ d) : remove (remove L a b) c d = remove (remove L c d) a b :=
  canon_unique _ _ (canon_remove (canon_remove hc h1) h2) (canon_remove (canon_remove hc h2) h1) fun n => by
    rw [mem_remove (canon_remove hc h1) h2, mem_remove hc h1, mem_remove (canon_remove hc h2) h1, mem_remove hc h2, Bool.and_assoc, Bool.and_assoc, Bool.and_comm (!decide (a ≤ n ∧ n ≤ b))]
theorem remove_twice {L : List Rg} {a b : Int} (hc : Canon L) (h1 : a ≤ b) : remove (remove L a b) a b = remove L a b :=
  canon_unique _ _ (canon_remove (canon_remove hc h1) h1) (canon_remove hc h1) fun n => by
    rw [mem_remove (canon_remove hc h1) h1, mem_remove hc h1, Bool.and_assoc, Bool.and_self]
theorem lose_none (A : List Rg) : ∀ (m : Nat) (i : Int) (L : List Rg), (∀ x, i ≤ x → x < i + m → memB A x = true) → lose A m i L = L
  | 0, _, _, _ => rfl
  | m + 1, i, L, h => by
    unfold lose
    rw [if_pos (h i (by omega) (by omega))]
    exact lose_none A m (i + 1) L fun x h1 h2 => h x (by omega) (by omega)
theorem ack_twice {s : Sd} {p : Pt} (h : SV s) (hp : Sent s p) : Sent (ack s p) p ∧ SV (ack s p) ∧ ack (ack s p) p = ack s p ∧ loss (ack s p) p = ack s p := by
  have hlo := hp.lo
  refine ⟨hp.of rfl rfl (Int.le_refl _), h.ack hp, ?_, ?_⟩
  · show ({ ack s p with A := add (add s.A _ _) _ _, L := remove (remove s.L _ _) _ _ } : Sd) = _
    rw [add_twice h.a.2.1 hlo, remove_twice h.b.2.1 hlo]
    rfl
  · show ({ ack s p with L := lose (add s.A _ _) _ _ (remove s.L _ _) } : Sd) = _
    rw [lose_none _ _ _ _ fun x h1 h2 => by
      rw [mem_add h.a.2.1 hlo, decide_eq_true (show p.o ≤ x ∧ x ≤ p.last from by omega)]; rfl]
    rfl
theorem ack_order {s : Sd} {p q : Pt} (h : SV s) (hp : Sent s p) (hq : Sent s q) : ack (ack s q) p = ack (ack s p) q := by
  show ({ s with A := add (add s.A _ _) _ _, L := remove (remove s.L _ _) _ _ } : Sd) = { s with A := add (add s.A _ _) _ _, L := remove (remove s.L _ _) _ _ }
  rw [add_comm' h.a.2.1 hq.lo hp.lo, remove_comm' h.b.2.1 hq.lo hp.lo]
theorem sentB_ack {s : Sd} {p q : Pt} : sentB (ack s p) q = sentB s q := by
  rw [Bool.eq_iff_iff, sentB_iff, sentB_iff]
  exact ⟨fun h => h.of (t := s) rfl rfl (Int.le_refl _), fun h => h.of rfl rfl (Int.le_refl _)⟩
/-- A lost part is sent again, or all of it was acknowledged. -/
theorem loss_again {s : Sd} {p : Pt} (h : SV s) (hp : Sent s p) :
    ((loss s p).L = [] → ∀ i, p.o ≤ i → i ≤ p.last → memB (loss s p).A i = true) ∧ ∀ r T, (loss s p).L = r :: T → ∀ k, 1 ≤ k → (next (loss s p) k).2.2 = true ∧ (next (loss s p) k).2.1.o = r.lo := by
  obtain ⟨b1, b2⟩ := lose_canon s.A (p.last + 1 - p.o).toNat p.o s.L h.b.2.1
  refine ⟨fun e i h0 h1 => ?_, fun r T e k hk => ?_⟩
  · have := b2 i
    rw [show lose s.A (p.last + 1 - p.o).toNat p.o s.L = [] from e, memB_nil, decide_eq_true (show p.o ≤ i ∧ i < p.o + ((p.last + 1 - p.o).toNat : Int) from by omega)] at this
    show memB s.A i = true
    cases hm : memB s.A i with
    | true => rfl
    | false => rw [hm] at this; simp at this
  · rcases nx_cases (h.loss hp) hk with ⟨r', T', hi, hL, _, _, _, _, _, _, _, e'⟩ | ⟨hL, _⟩ | ⟨_, hL, _⟩
    · rw [e] at hL
      cases hL
      rw [e']
      exact ⟨rfl, rfl⟩
    · rw [e] at hL; cases hL
    · rw [e] at hL; cases hL
theorem loss_mem {s : Sd} {p : Pt} (h : SV s) (i : Int) : memB (loss s p).L i = (memB s.L i || ((decide (p.o ≤ i) && decide (i ≤ p.last)) && !memB s.A i)) := by
  obtain ⟨_, b2⟩ := lose_canon s.A (p.last + 1 - p.o).toNat p.o s.L h.b.2.1
  show memB (lose _ _ _ _) i = _
  rw [b2]
  congr 2
  rw [Bool.eq_iff_iff, Bool.and_eq_true, decide_eq_true_iff, decide_eq_true_iff, decide_eq_true_iff]
  omega

def write (s : Sd) (b : ByteArray) : Sd × Bool := if s.f = true ∨ s.d.size + b.size > 30 then (s, false) else ({ s with d := s.d ++ b }, true)
theorem SV.write {s : Sd} {b : ByteArray} (h : SV s) : SV (write s b).1 := by
  unfold Go.Proofs.Ytmkmaeblnnfheaa.write
  split
  · exact h
  · rename_i hc
    have hs : (s.d ++ b).size = s.d.size + b.size := ByteArray.size_append
    have hf : s.f = false := by cases hf : s.f with
      | false => rfl
      | true => exact absurd (.inl hf) hc
    have hn := h.n1
    have hn0 := h.n0
    have hlim := h.lim
    unfold Sd.pos at hn
    rw [hf] at hn
    simp at hn
    refine ⟨by show (s.d ++ b).size ≤ 30; omega, h.l0, h.l1, h.n0, ?_, ?_, h.a, h.b, h.aLt, h.bLt, h.apart⟩
    · unfold Sd.pos
      dsimp only
      rw [hf]
      simp only [Bool.false_eq_true, if_false]
      rw [hs]
      omega
    · show min s.n ((s.d ++ b).size : Int) ≤ s.l
      omega
theorem SV.finish {s : Sd} (h : SV s) : SV { s with f := true } := by
  refine ⟨h.len, h.l0, h.l1, h.n0, ?_, h.lim, h.a, h.b, h.aLt, h.bLt, h.apart⟩
  have := h.n1
  have := (pos_le s).2
  show s.n ≤ Sd.pos { s with f := true }
  unfold Sd.pos
  simp
  omega
theorem SV.grant {s : Sd} {l : Int} (h : SV s) (h1 : s.l ≤ l) (h2 : l ≤ 30) : SV { s with l := l } := by
  have := h.l0
  have := h.lim
  exact ⟨h.len, by show 0 ≤ l; omega, h2, h.n0, h.n1, by show min s.n (s.d.size : Int) ≤ l; omega, h.a, h.b, h.aLt, h.bLt, h.apart⟩
theorem grant_more {s : Sd} {l k : Int} (h : SV s) (hk : 1 ≤ k) (h1 : s.l ≤ l) (h2 : l ≤ 30) (hb : (next s k).2.2 = true) : (next { s with l := l } k).2.2 = true := by
  rcases nx_cases (h.grant h1 h2) hk with ⟨_, _, _, _, _, _, _, _, _, _, _, e⟩ | ⟨hL, hn, e⟩ | ⟨_, _, _, _, _, _, _, _, e⟩
  · rw [e]
  · exfalso
    apply hn
    dsimp only
    rcases nx_cases h hk with ⟨_, _, _, hL', _⟩ | ⟨_, _, e'⟩ | ⟨_, _, _, _, _, _, _, hr, _⟩
    · rw [show s.L = [] from hL] at hL'; cases hL'
    · rw [e'] at hb; cases hb
    · rcases hr with hr | ⟨h3, h4, h5⟩
      · exact .inl (by omega)
      · exact .inr ⟨h3, h4, by omega⟩
  · rw [e]

end Go.Proofs.Ytmkmaeblnnfheaa
/- Small functions on numbers and on lists of ranges: both RangesValid, membership, searches, copies, counts, comparisons. -/
namespace Go.Proofs.Ytmkmaeblnnfheaa
open Go.RowKit

theorem ret_bool {a b : Bool} (h : a = b) : Ending.returned (.bool a) = .returned (.bool b) := by rw [h]
theorem ret_int {a b : Int} (h : a = b) : Ending.returned (.int .i64 a) = .returned (.int .i64 b) := by rw [h]
theorem below_drewN' {w w' : World} {B : Nat} (h : Below B w w') (n : Nat) : Below B w (w'.drewN n) := ⟨h.os, h.tape, h.output, h.size, h.block⟩
theorem ba {w w' : World} {B : Nat} (h : Below B w w') (o : Obj) (hB : B ≤ w.heap.size := by first | exact Nat.le_refl _ | (have := Below.size ‹_›; omega)) : Below B w (w'.alloc o) := h.alloc (Nat.le_trans hB h.size) o

theorem l6In_any (n lo hi : Int) (w : World) :
    Calls Try.prog 70 #[.int .i64 n, .int .i64 lo, .int .i64 hi] w fun e w' => e = .returned (.bool (decide (lo ≤ n ∧ n ≤ hi))) ∧ w = w' := by
  go_enter Try.func70, Try.ntmps70
  go_wp2
  all_goals
    go_returns
    exact ⟨ret_bool (by rw [Bool.eq_iff_iff]; simp_all <;> omega), rfl⟩
theorem within_any (n lo hi : Int) (w : World) :
    Calls Try.prog 55 #[.int .i64 n, .int .i64 lo, .int .i64 hi] w fun e w' => e = .returned (.bool (decide (lo ≤ n ∧ n ≤ hi))) ∧ w = w' := by
  go_enter Try.func55, Try.ntmps55
  go_wp2
  all_goals
    go_returns
    exact ⟨ret_bool (by rw [Bool.eq_iff_iff]; simp_all <;> omega), rfl⟩
theorem l6In_v {n lo hi : Int} {b : Bool} (h : decide (lo ≤ n ∧ n ≤ hi) = b) (w : World) :
    Calls Try.prog 70 #[.int .i64 n, .int .i64 lo, .int .i64 hi] w fun e w' => e = .returned (.bool b) ∧ w = w' :=
  (l6In_any n lo hi w).mono fun _ _ ⟨he, hw⟩ => ⟨by rw [he, h], hw⟩
theorem within_v {n lo hi : Int} {b : Bool} (h : decide (lo ≤ n ∧ n ≤ hi) = b) (w : World) :
    Calls Try.prog 55 #[.int .i64 n, .int .i64 lo, .int .i64 hi] w fun e w' => e = .returned (.bool b) ∧ w = w' :=
  (within_any n lo hi w).mono fun _ _ ⟨he, hw⟩ => ⟨by rw [he, h], hw⟩

/-- The end of the range ahead of k. -/
def lst (L : List Rg) (k : Nat) : Int := if k = 0 then -2 else (rth L (k - 1)).hi
theorem lst_succ (L : List Rg) (k : Nat) : lst L (k + 1) = (rth L k).hi := by unfold lst; rw [if_neg (by omega)]; rfl
theorem lst_bd {L : List Rg} {k : Nat} (h : ∀ j, j < k → chk L j) : (-2 ≤ lst L k ∧ lst L k ≤ 999) ∧ (0 < k → 0 ≤ lst L k) := by
  unfold lst
  by_cases hk : k = 0
  · rw [if_pos hk]; omega
  · rw [if_neg hk]
    obtain ⟨h1, _, h2, h3⟩ := h (k - 1) (by omega)
    omega
theorem chk_lst {L : List Rg} {k : Nat} (h : ∀ j, j < k → chk L j) : chk L k ↔ lst L k + 2 ≤ (rth L k).lo ∧ (rth L k).lo ≤ (rth L k).hi ∧ (rth L k).hi ≤ 999 := by
  have hb := lst_bd h
  unfold chk
  by_cases hk : k = 0
  · have : lst L k = -2 := by unfold lst; rw [if_pos hk]
    rw [this]
    constructor
    · rintro ⟨h1, _, h2, h3⟩; omega
    · rintro ⟨h1, h2, h3⟩; exact ⟨by omega, fun e => by omega, h2, h3⟩
  · have : lst L k = (rth L (k - 1)).hi := by unfold lst; rw [if_neg hk]
    rw [← this]
    constructor
    · rintro ⟨h1, h0, h2, h3⟩; exact ⟨h0 (by omega), h2, h3⟩
    · rintro ⟨h1, h2, h3⟩; exact ⟨by have := hb.2 (by omega); omega, fun _ => h1, h2, h3⟩

set_option maxHeartbeats 2000000 in
theorem rv_impl (A : Option Addr) (n c : Nat) (L : List Rg) (w : World) (h : RngAt w A n L) (hn : n ≤ 2000000) :
    Calls Try.prog 53 #[.slice A n c] w fun e w' => e = .returned (.bool (rvB L)) ∧ Below w.heap.size w w' := by
  have hl := hid_of h.1
  by_cases h16 : 16 < n
  · go_enter Try.func53, Try.ntmps53
    go_wp2_with fail
    go_ret
    exact ⟨ret_bool (rvB_long (by rw [hl.out]; exact h16)).symm, Below.refl _ _⟩
  go_enter Try.func53, Try.ntmps53
  go_wp2_with fail
  go_loopw [3, 11] (fun l i wr => ∃ k : Nat, l = .int .i64 (lst L k) ∧ i = .int .i64 (k : Nat) ∧ k ≤ n ∧ Hid (∀ j, j < k → chk L j) ∧ Below w.heap.size w wr) (fun _ i _ => n - (intOf i).toNat)
  case atStart => exact ⟨0, rfl, rfl, Nat.zero_le _, fun j hj => by omega, Below.refl _ _⟩
  case round =>
    obtain ⟨k, rfl, rfl, hk, HK, hb⟩ := hrel
    by_cases hlt : k < n
    · obtain ⟨g, off, rfl, hgl, hc⟩ := (h.below hb).2 (by omega)
      obtain ⟨c0, c1⟩ := hc k hlt
      have hch := chk_lst (L := L) (k := k) HK.out
      obtain ⟨⟨hb0, hb1⟩, _⟩ := lst_bd (L := L) (k := k) HK.out
      have hs := lst_succ L k
      obtain ⟨last, hlast⟩ : ∃ x, x = lst L k := ⟨_, rfl⟩
      rw [← hlast] at hch hb0 hb1 ⊢
      obtain ⟨⟨lo, hi⟩, hx⟩ : ∃ x, x = rth L k := ⟨_, rfl⟩
      rw [← hx] at c0 c1 hch hs
      dsimp only at c0 c1 hch hs
      have HC := hid_of hch
      have HS := hid_of hs
      clear hc hx hch hlast hs
      by_cases t1 : lo < last + 2
      · go_wp2_with fail
        go_ret
        exact ⟨ret_bool (rvB_bad (k := k) (by rw [hl.out]; exact hlt) (fun e => by have := HC.out.1 e; omega)).symm, hb.alloc hb.size _⟩
      by_cases t2 : hi < lo
      · go_wp2_with fail
        go_ret
        exact ⟨ret_bool (rvB_bad (k := k) (by rw [hl.out]; exact hlt) (fun e => by have := HC.out.1 e; omega)).symm, hb.alloc hb.size _⟩
      by_cases t3 : 999 < hi
      · go_wp2_with fail
        go_ret
        exact ⟨ret_bool (rvB_bad (k := k) (by rw [hl.out]; exact hlt) (fun e => by have := HC.out.1 e; omega)).symm, hb.alloc hb.size _⟩
      go_wp2_with fail
      go_roundw
      case rel => exact ⟨k + 1, by rw [HS.out], by go_num, by omega, fun q hq => chk_next HK.out (HC.out.2 ⟨by omega, by omega, by omega⟩) q hq, hb.alloc hb.size _⟩
      case measure => simp [intOf]; omega
    · have hkn : k = n := by omega
      subst hkn
      clear hlt
      go_wp2_with fail
      go_ret
      exact ⟨ret_bool (rvB_true (by rw [hl.out]; omega) (fun q hq => HK.out q (by rw [hl.out] at hq; exact hq))).symm, hb⟩

theorem mem_none {L : List Rg} {x : Int} (h : ∀ q, q < L.length → inB (rth L q) x = false) : memB L x = false := by
  cases hm : memB L x with
  | false => rfl
  | true =>
    obtain ⟨r, hr, h1⟩ := memB_iff.1 hm
    obtain ⟨i, hi, rfl⟩ := mem_rth hr
    have := h i hi
    rw [inB_iff.2 h1] at this
    cases this
theorem mem_some {L : List Rg} {x : Int} {k : Nat} (hk : k < L.length) (h : inB (rth L k) x = true) : memB L x = true := memB_iff.2 ⟨_, rth_mem hk, inB_iff.1 h⟩

set_option maxHeartbeats 1000000 in
theorem l2Has_any (A : Option Addr) (n c : Nat) (L : List Rg) (w : World) (x : Int) (h : RngAt w A n L) (hn : n ≤ 2000000) :
    Calls Try.prog 88 #[.slice A n c, .int .i64 x] w fun e w' => e = .returned (.bool (memB L x)) ∧ Below w.heap.size w w' := by
  have hl := hid_of h.1
  go_enter Try.func88, Try.ntmps88
  go_wp2_with fail
  go_loopw [5] (fun i wr => ∃ k : Nat, i = .int .i64 (k : Nat) ∧ k ≤ n ∧ Hid (∀ j, j < k → inB (rth L j) x = false) ∧ Below w.heap.size w wr) (fun i _ => n - (intOf i).toNat)
  case atStart => exact ⟨0, rfl, Nat.zero_le _, fun j hj => by omega, Below.refl _ _⟩
  case round =>
    obtain ⟨k, rfl, hk, HK, hb⟩ := hrel
    by_cases hlt : k < n
    · obtain ⟨g, off, rfl, hgl, hc⟩ := (h.below hb).2 (by omega)
      obtain ⟨c0, c1⟩ := hc k hlt
      have hin : inB (rth L k) x = decide ((rth L k).lo ≤ x ∧ x ≤ (rth L k).hi) := rfl
      obtain ⟨b, hbb⟩ : ∃ b, decide ((rth L k).lo ≤ x ∧ x ≤ (rth L k).hi) = b := ⟨_, rfl⟩
      rw [hbb] at hin
      have HB := hid_of hbb
      have HI := hid_of hin
      clear hbb hin hc
      generalize (rth L k).lo = lo at c0 HB
      generalize (rth L k).hi = hi at c1 HB
      cases b with
      | true =>
        go_wp2_with fail
        go_quiet ((go_at_call 70; exact Calls.quiet_of_same ((l6In_v HB.out _).mono fun _ _ ⟨h1, h2⟩ => ⟨h1, h2.symm⟩)))
        go_wp2_with fail
        go_ret
        exact ⟨ret_bool (mem_some (k := k) (by rw [hl.out]; exact hlt) HI.out).symm, below_drewN' hb _⟩
      | false =>
        go_wp2_with fail
        go_quiet ((go_at_call 70; exact Calls.quiet_of_same ((l6In_v HB.out _).mono fun _ _ ⟨h1, h2⟩ => ⟨h1, h2.symm⟩)))
        go_wp2_with fail
        go_roundw
        case rel => exact ⟨k + 1, by go_num, by omega, fun q hq => by
          rcases (show q < k ∨ q = k from by omega) with e | e
          · exact HK.out q e
          · rw [e]; exact HI.out, below_drewN' hb _⟩
        case measure => simp [intOf]; omega
    · have hkn : k = n := by omega
      subst hkn
      clear hlt
      go_wp2_with fail
      go_ret
      exact ⟨ret_bool (mem_none (fun q hq => HK.out q (by rw [hl.out] at hq; exact hq))).symm, hb⟩

end Go.Proofs.Ytmkmaeblnnfheaa
/- The reference's RangesValid. -/
namespace Go.Proofs.Ytmkmaeblnnfheaa
open Go.RowKit

set_option maxHeartbeats 16000000 in
theorem rv_spec (A : Option Addr) (n c : Nat) (L : List Rg) (w : World) (h : RngAt w A n L) (hn : n ≤ 2000000) :
    Calls Try.prog 92 #[.slice A n c] w fun e w' => e = .returned (.bool (rvB L)) ∧ Below w.heap.size w w' := by
  have hl := hid_of h.1
  go_enter Try.func92, Try.ntmps92
  go_wp2_with fail
  go_loopw [3] (fun i wr => ∃ k : Nat, i = .int .i64 (k : Nat) ∧ k ≤ n ∧ Hid (∀ j, j < k → chk L j) ∧ Below w.heap.size w wr) (fun i _ => n - (intOf i).toNat)
  case atStart => exact ⟨0, rfl, Nat.zero_le _, fun j hj => by omega, Below.refl _ _⟩
  case round =>
    obtain ⟨k, rfl, hk, HK, hb⟩ := hrel
    by_cases hlt : k < n
    · obtain ⟨g, off, rfl, hgl, hc⟩ := (h.below hb).2 (by omega)
      obtain ⟨c0, c1⟩ := hc k hlt
      have hch := chk_lst (L := L) (k := k) HK.out
      obtain ⟨⟨hb0, hb1⟩, hb2⟩ := lst_bd (L := L) (k := k) HK.out
      have hprev : 0 < k → wr.cell? ⟨g, off + (k - 1) * 2 + 1, none⟩ = some (.int .i64 (lst L k)) := fun h0 => by
        have e : lst L k = (rth L (k - 1)).hi := by unfold lst; rw [if_neg (by omega)]
        rw [e]
        exact (hc (k - 1) (by omega)).2
      have hz : k = 0 → lst L k = -2 := fun e => by unfold lst; rw [if_pos e]
      obtain ⟨last, hlast⟩ : ∃ x, x = lst L k := ⟨_, rfl⟩
      rw [← hlast] at hch hb0 hb1 hb2 hprev hz
      obtain ⟨⟨lo, hi⟩, hx⟩ : ∃ x, x = rth L k := ⟨_, rfl⟩
      rw [← hx] at c0 c1 hch
      dsimp only at c0 c1 hch
      have HC := hid_of hch
      clear hc hx hch hlast
      by_cases t1 : lo < 0
      · have d1 : decide (lo < 0) = true := decide_eq_true t1
        go_wp2_with fail
        go_quiet (fail)
        go_wp2_with fail
        go_ret
        exact ⟨ret_bool (rvB_bad (k := k) (by rw [hl.out]; exact hlt) (fun e => by have := HC.out.1 e; omega)).symm, below_drewN' hb _⟩
      have d1 : decide (lo < 0) = false := decide_eq_false t1
      by_cases t2 : hi < lo
      · have d2 : decide (hi < lo) = true := decide_eq_true t2
        go_wp2_with fail
        go_quiet (fail)
        go_wp2_with fail
        go_ret
        exact ⟨ret_bool (rvB_bad (k := k) (by rw [hl.out]; exact hlt) (fun e => by have := HC.out.1 e; omega)).symm, below_drewN' hb _⟩
      have d2 : decide (hi < lo) = false := decide_eq_false t2
      by_cases t3 : 999 < hi
      · have d3 : decide (999 < hi) = true := decide_eq_true t3
        go_wp2_with fail
        go_quiet (fail)
        go_wp2_with fail
        go_ret
        exact ⟨ret_bool (rvB_bad (k := k) (by rw [hl.out]; exact hlt) (fun e => by have := HC.out.1 e; omega)).symm, below_drewN' hb _⟩
      have d3 : decide (999 < hi) = false := decide_eq_false t3
      by_cases hk0 : k = 0
      · have d5 : decide (0 < k) = false := decide_eq_false (by omega)
        have hz' := hz hk0
        clear hk0
        have HZ := hid_of hz'
        clear hz hz' hprev
        go_wp2_with fail
        go_quiet (fail)
        go_wp2_with fail
        go_roundw
        case rel => exact ⟨k + 1, by go_num, by omega, fun q hq => chk_next HK.out (HC.out.2 ⟨by have := HZ.out; omega, by omega, by omega⟩) q hq, below_drewN' hb _⟩
        case measure => simp [intOf]; omega
      · obtain ⟨k, rfl⟩ : ∃ k', k = k' + 1 := ⟨k - 1, by omega⟩
        have p1 := hprev (by omega)
        clear hk0
        clear hz hprev
        rw [Nat.add_sub_cancel] at p1
        have d5 : decide ((0 : Int) < (k : Int) + 1) = true := decide_eq_true (by omega)
        by_cases t4 : lo < last + 2
        · have d4 : decide (lo < last + 2) = true := decide_eq_true t4
          go_wp2_with fail
          go_quiet (fail)
          go_wp2_with fail
          go_ret
          exact ⟨ret_bool (rvB_bad (k := k + 1) (by rw [hl.out]; exact hlt) (fun e => by have := HC.out.1 e; omega)).symm, below_drewN' hb _⟩
        · have d4 : decide (lo < last + 2) = false := decide_eq_false t4
          go_wp2_with fail
          go_quiet (fail)
          go_wp2_with fail
          go_roundw
          case rel => exact ⟨k + 1 + 1, by go_num, by omega, fun q hq => chk_next HK.out (HC.out.2 ⟨by omega, by omega, by omega⟩) q hq, below_drewN' hb _⟩
          case measure => simp [intOf]; omega
    · have hkn : k = n := by omega
      subst hkn
      clear hlt
      by_cases h16 : 16 < k
      · go_wp2_with fail
        go_ret
        exact ⟨ret_bool (by rw [rvB_long (by rw [hl.out]; exact h16)]; first | rfl | (simp; omega)), hb⟩
      · go_wp2_with fail
        go_ret
        exact ⟨ret_bool (by rw [rvB_true (L := L) (by rw [hl.out]; omega) (fun q hq => HK.out q (by rw [hl.out] at hq; exact hq))]; first | rfl | (simp; omega)), hb⟩

end Go.Proofs.Ytmkmaeblnnfheaa
/- Searches in lists of ranges, copies, counts, comparisons: the library's IndexFunc, ContainsFunc and Clone, has, RangesHas, RangesCount, sameRanges. -/
namespace Go.Proofs.Ytmkmaeblnnfheaa
open Go.RowKit

/-- A function value answers f of each range, and leaves what was there. -/
def PredOf (g : Nat) (lb : Array Value) (f : Rg → Bool) (w : World) : Prop :=
  ∀ (W : World) (x : Rg), Below w.heap.size w W → Calls Try.prog g (#[.agg #[.int .i64 x.lo, .int .i64 x.hi]] ++ lb) W fun e w' => e = .returned (.bool (f x)) ∧ Below W.heap.size W w'

theorem pred_has (q : Int) (B : Nat) (w : World) (hB : B < w.heap.size) (hcell : w.cell? ⟨B, 0, none⟩ = some (.int .i64 q)) :
    PredOf 87 #[.pointer (some ⟨B, 0, none⟩)] (fun x => inB x q) w := fun W x hb => by
  have hc : W.cell? ⟨B, 0, none⟩ = some (.int .i64 q) := (hb.cell (p := ⟨B, 0, none⟩) hB).trans hcell
  have hBW : B < W.heap.size := Nat.lt_of_lt_of_le hB hb.size
  have hne : B ≠ W.heap.size := by omega
  obtain ⟨lo, hi⟩ := x
  show Calls Try.prog 87 #[.agg #[.int .i64 lo, .int .i64 hi], .pointer (some ⟨B, 0, none⟩)] W _
  go_enter Try.func87, Try.ntmps87
  go_wp2_with (go_at_call 55; (with_reducible refine (within_any _ _ _ _).mono ?_); rintro e w2 ⟨rfl, rfl⟩)
  go_ret
  exact ⟨ret_bool (by rw [Bool.eq_iff_iff]; unfold inB; simp), by go_grown⟩

theorem any_next {f : Rg → Bool} {L : List Rg} {m : Nat} (h : ∀ q, q < m → f (rth L q) = false) (h1 : f (rth L m) = false) (q : Nat) (hq : q < m + 1) : f (rth L q) = false := by
  rcases (show q < m ∨ q = m from by omega) with e | e
  · exact h q e
  · rw [e]; exact h1
theorem any_none {f : Rg → Bool} {L : List Rg} (h : ∀ q, q < L.length → f (rth L q) = false) : L.any f = false := by
  rw [List.any_eq_false]
  intro x hx
  obtain ⟨i, hi, rfl⟩ := mem_rth hx
  rw [h i hi]
  simp
theorem any_some {f : Rg → Bool} {L : List Rg} {k : Nat} (hk : k < L.length) (h : f (rth L k) = true) : L.any f = true := List.any_eq_true.2 ⟨_, rth_mem hk, h⟩

set_option maxHeartbeats 1000000 in
theorem index_any (A : Option Addr) (n c : Nat) (L : List Rg) (w : World) (f : Rg → Bool) (g : Nat) (lb : Array Value)
    (eg : ∀ args w, (callFunc g args).run Try.prog w = .ok (.enter g args) w) (h : RngAt w A n L) (hn : n ≤ 2000000) (hp : PredOf g lb f w) :
    Calls Try.prog 102 #[.slice A n c, .func (.func g) #[] lb] w fun e w' => (∃ v : Int, e = .returned (.int .i64 v) ∧ decide (0 ≤ v) = L.any f) ∧ Below w.heap.size w w' := by
  have hl := hid_of h.1
  go_enter Try.func102, Try.ntmps102
  go_wp2_with fail
  go_loopw [5, 8] (fun _ i wr => ∃ k : Nat, i = .int .i64 (k : Nat) ∧ k ≤ n ∧ Hid (∀ q, q < k → f (rth L q) = false) ∧ Below w.heap.size w wr) (fun _ i _ => n - (intOf i).toNat)
  case atStart => exact ⟨0, rfl, Nat.zero_le _, fun j hj => by omega, Below.refl _ _⟩
  case round =>
    obtain ⟨k, rfl, hk, HK, hb⟩ := hrel
    by_cases hlt : k < n
    · obtain ⟨g', off, rfl, hgl, hc⟩ := (h.below hb).2 (by omega)
      obtain ⟨c0, c1⟩ := hc k hlt
      have hcall := hp wr (rth L k) hb
      obtain ⟨⟨lo, hi⟩, hx⟩ : ∃ x, x = rth L k := ⟨_, rfl⟩
      rw [← hx] at c0 c1 hcall
      dsimp only at c0 c1
      have HX := hid_of hx
      clear hc hx hp
      cases hq : f ⟨lo, hi⟩ with
      | true =>
        rw [hq] at hcall
        have HQ := hid_of hq
        clear hq
        go_wp2_with (go_at_fn g; refine hcall.mono ?_; rintro e w' ⟨rfl, hb'⟩)
        go_ret
        exact ⟨⟨_, rfl, by rw [any_some (k := k) (by rw [hl.out]; exact hlt) (by rw [← HX.out]; exact HQ.out)]; simp⟩, hb.trans (hb'.mono hb.size)⟩
      | false =>
        rw [hq] at hcall
        have HQ := hid_of hq
        clear hq
        go_wp2_with (go_at_fn g; refine hcall.mono ?_; rintro e w' ⟨rfl, hb'⟩)
        go_roundw
        case rel => exact ⟨k + 1, by go_num, by omega, any_next HK.out (by rw [← HX.out]; exact HQ.out), hb.trans (hb'.mono hb.size)⟩
        case measure => simp [intOf]; omega
    · have hkn : k = n := by omega
      subst hkn
      clear hlt
      go_wp2_with fail
      go_ret
      exact ⟨⟨_, rfl, by rw [any_none (L := L) (fun q hq => HK.out q (by rw [hl.out] at hq; exact hq))]; rfl⟩, hb⟩

theorem contains_any (A : Option Addr) (n c : Nat) (L : List Rg) (w : World) (f : Rg → Bool) (g : Nat) (lb : Array Value)
    (eg : ∀ args w, (callFunc g args).run Try.prog w = .ok (.enter g args) w) (h : RngAt w A n L) (hn : n ≤ 2000000) (hp : PredOf g lb f w) :
    Calls Try.prog 86 #[.slice A n c, .func (.func g) #[] lb] w fun e w' => e = .returned (.bool (L.any f)) ∧ Below w.heap.size w w' := by
  have hcon := index_any A n c L w f g lb eg h hn hp
  clear hp h
  go_enter Try.func86, Try.ntmps86
  go_wp2_with (go_at_call 102; refine hcon.mono ?_; rintro e w' ⟨⟨v, rfl, hv⟩, hb'⟩; have HV := hid_of hv; clear hv)
  go_ret
  exact ⟨ret_bool HV.out, hb'⟩

theorem has_any (A : Option Addr) (n c : Nat) (L : List Rg) (w : World) (q : Int) (h : RngAt w A n L) (hn : n ≤ 2000000) :
    Calls Try.prog 54 #[.slice A n c, .int .i64 q] w fun e w' => e = .returned (.bool (memB L q)) ∧ Below w.heap.size w w' := by
  have hcon := contains_any A n c L (w.alloc (.cells #[.int .i64 q] 3)) (fun x => inB x q) 87 #[.pointer (some ⟨w.heap.size, 0, none⟩)] (enters_of Try.func87 (by kernel_rfl) rfl) (h.alloc _) hn
    (pred_has q w.heap.size _ (by simp) (by simp))
  clear h
  go_enter Try.func54, Try.ntmps54
  go_wp2_with (go_at_call 86; refine hcon.mono ?_; rintro e w' ⟨rfl, hb'⟩)
  go_ret
  exact ⟨rfl, ((Below.refl _ w).alloc (Nat.le_refl _) _).trans (hb'.mono (by simp))⟩

theorem rhas_any (A : Option Addr) (n c : Nat) (L : List Rg) (w : World) (q : Int) (h : RngAt w A n L) (hn : n ≤ 2000000) :
    Calls Try.prog 18 #[.slice A n c, .int .i64 q] w fun e w' => e = .returned (.bool (rvB L && memB L q)) ∧ Below w.heap.size w w' := by
  obtain ⟨b, hb⟩ : ∃ b, rvB L = b := ⟨_, rfl⟩
  have HB := hid_of hb
  rw [hb]
  clear hb
  have hrv := rv_impl A n c L w h hn
  rw [HB.out] at hrv
  cases b with
  | false =>
    go_enter Try.func18, Try.ntmps18
    go_wp2_with (go_at_call 53; refine hrv.mono ?_; rintro e w1 ⟨rfl, hb1⟩)
    go_ret
    exact ⟨rfl, hb1⟩
  | true =>
    go_enter Try.func18, Try.ntmps18
    go_wp2_with (first | (go_at_call 53; refine hrv.mono ?_; rintro e w1 ⟨rfl, hb1⟩) | (go_at_call 54; (with_reducible refine (has_any A n c L _ q (h.below hb1) hn).mono ?_); rintro e w2 ⟨rfl, hb2⟩))
    go_ret
    exact ⟨rfl, hb1.trans (hb2.mono hb1.size)⟩

set_option maxHeartbeats 1000000 in
theorem clone_any (A : Option Addr) (c : Nat) (L : List Rg) (w : World) (h : RngAt w A L.length L) (hnone : A = none → c = 0) (hn : L.length ≤ 2000000) :
    Calls Try.prog 82 #[.slice A L.length c] w (GotRng w L) := by
  obtain ⟨i0, hi0, hz0, hz1, hz2⟩ := info_parts info_rng
  have q25 : ∀ (w : World) (a : Option Addr) (n c n' c' : Nat), (binOp .eql 23 (.slice a n c) (.slice none n' c')).run Try.prog w = .ok (.bool a.isNone) w := fun w a n c n' c' => Lib.run_eql_slice_nil w _ _ a n c n' c' Try.underlying23
  cases A with
  | none =>
    have hL : L = [] := by
      cases L with
      | nil => rfl
      | cons r T => obtain ⟨_, _, e, _⟩ := h.2 (by simp); cases e
    subst hL
    go_enter Try.func82, Try.ntmps82
    go_wp2
    go_ret
    exact ⟨_, _, rfl, RngIn.empty _ _ _ _, Below.refl _ _⟩
  | some x =>
    generalize hN : L.length = N at *
    have HNN := hid_of hN
    clear hN
    go_enter Try.func82, Try.ntmps82
    go_wp2_with (at_builtin; refine wpList_copy_rng _ rfl _ _ rfl (base := w.heap.size) (g := w.heap.size) (L := L) rfl (World.ownsRow_lit w #[] 0 (Nat.le_refl _) (Nat.zero_le _) rfl) (by simp) rfl (h.alloc _) (by intro e; cases e) hn ?_; intro A' c' w' hI hg)
    go_ret
    refine ⟨A', c', by rw [HNN.out]; rfl, by rw [HNN.out]; exact hI, ?_⟩
    exact ((Below.refl _ w).alloc (Nat.le_refl _) _).grown hg (by simp) (by intro k hk; simp at hk; omega)

theorem count_next {L : List Rg} {k : Nat} (h : k < L.length) : count (L.take (k + 1)) = count (L.take k) + ((rth L k).hi - (rth L k).lo + 1) := by
  rw [List.take_succ_eq_append_getElem h, count_snoc, rth_eq h]
theorem canon_take {L : List Rg} (h : Canon L) (k : Nat) : Canon (L.take k) := ⟨fun r hr => h.1 r (List.mem_of_mem_take hr), h.2.sublist (List.take_sublist _ _)⟩

set_option maxHeartbeats 1000000 in
/-- The count of a set. -/
theorem count_any (A : Option Addr) (n c : Nat) (L : List Rg) (w : World) (h : RngAt w A n L) (hn : n ≤ 2000000) (hr : rvB L = true) :
    Calls Try.prog 68 #[.slice A n c] w fun e w' => e = .returned (.int .i64 (count L)) ∧ Below w.heap.size w w' := by
  have hl := hid_of h.1
  have hrv := rv_impl A n c L w h hn
  have HR := hid_of (rvB_iff.1 hr)
  rw [hr] at hrv
  clear hr
  have hcb : ∀ k, 0 ≤ count (L.take k) ∧ count (L.take k) ≤ 1000 := fun k => by
    have := count_le (L.take k) 0 1000 (canon_take HR.out.2.1 k) (fun r hr => by have := HR.out.2.2 r (List.mem_of_mem_take hr); omega) (by omega)
    omega
  go_enter Try.func68, Try.ntmps68
  go_wp2_with (go_at_call 53; refine hrv.mono ?_; rintro e w1 ⟨rfl, hb1⟩)
  go_loopw [3, 11] (fun s i wr => ∃ k : Nat, i = .int .i64 (k : Nat) ∧ s = .int .i64 (count (L.take k)) ∧ k ≤ n ∧ Below w.heap.size w wr) (fun _ i _ => n - (intOf i).toNat)
  case atStart => exact ⟨0, rfl, rfl, Nat.zero_le _, hb1⟩
  case round =>
    obtain ⟨k, rfl, rfl, hk, hb⟩ := hrel
    by_cases hlt : k < n
    · obtain ⟨g, off, rfl, hgl, hc⟩ := (h.below hb).2 (by omega)
      obtain ⟨c0, c1⟩ := hc k hlt
      have hnx := count_next (L := L) (k := k) (by rw [hl.out]; exact hlt)
      obtain ⟨hc0, hc1⟩ := hcb k
      obtain ⟨hr0, hr1⟩ := HR.out.2.2 _ (rth_mem (L := L) (i := k) (by rw [hl.out]; exact hlt))
      have hr2 := HR.out.2.1.1 _ (rth_mem (L := L) (i := k) (by rw [hl.out]; exact hlt))
      generalize count (L.take k) = s at *
      generalize (rth L k).lo = lo at *
      generalize (rth L k).hi = hi at *
      have HNX := hid_of hnx
      clear hc hnx hcb
      go_wp2_with fail
      go_roundw
      case rel => exact ⟨k + 1, by go_num, by rw [HNX.out], by omega, ba hb _⟩
      case measure => simp [intOf]; omega
    · have hkn : k = n := by omega
      subst hkn
      clear hlt
      have e : L.take k = L := List.take_of_length_le (by rw [hl.out]; exact Nat.le_refl _)
      rw [e]
      clear e
      go_wp2_with fail
      go_ret
      exact ⟨rfl, hb⟩

/-- Equal lists are found equal. -/
theorem same_any (A A' : Option Addr) (n c c' : Nat) (L : List Rg) (w : World) (h : RngAt w A n L) (h' : RngAt w A' n L) (hn : n ≤ 2000000) :
    Calls Try.prog 52 #[.slice A n c, .slice A' n c'] w fun e w' => e = .returned (.bool true) ∧ Below w.heap.size w w' := by
  go_enter Try.func52, Try.ntmps52
  go_wp2_with fail
  go_loopw [5] (fun i wr => ∃ k, i = .int .i64 (k : Nat) ∧ k ≤ n ∧ Below w.heap.size w wr) (fun i _ => n - (intOf i).toNat)
  case atStart => exact ⟨0, rfl, Nat.zero_le _, Below.refl _ _⟩
  case round =>
    obtain ⟨k, rfl, hk, hb⟩ := hrel
    by_cases hlt : k < n
    · obtain ⟨g, off, rfl, _, hc⟩ := (h.below hb).2 (by omega)
      obtain ⟨g', off', rfl, _, hc'⟩ := (h'.below hb).2 (by omega)
      obtain ⟨c0, c1⟩ := hc k hlt
      obtain ⟨d0, d1⟩ := hc' k hlt
      clear hc hc'
      go_wp2_with fail
      go_quiet (fail)
      go_wp2_with fail
      go_roundw
      case rel => exact ⟨k + 1, by go_num, by omega, below_drewN' hb _⟩
      case measure => simp [intOf]; omega
    · have hkn : k = n := by omega
      subst hkn
      clear hlt
      go_wp2_with fail
      go_ret
      exact ⟨rfl, hb⟩

end Go.Proofs.Ytmkmaeblnnfheaa
/- A region that draws its order, whose operations read what lay there before and whose callees only add to the memory, is walked once, in the order of the text. -/
namespace Go.Proofs.Ytmkmaeblnnfheaa
open Go.RowKit

/-- The worlds in which all that lies in W lies as it is in W. -/
def Up (W : World) : Type := {w' : World // Below W.heap.size W w'}
def Up.w {W : World} (x : Up W) : World := x.1
instance {W : World} : Nonempty (Up W) := ⟨⟨W, Below.refl _ _⟩⟩
theorem Up.b {W : World} (x : Up W) : Below W.heap.size W x.w := x.2
theorem Up.cell {W : World} {b j : Nat} {v : Value} (h : W.cell? ⟨b, j, none⟩ = some v) (x : Up W) : x.w.cell? ⟨b, j, none⟩ = some v := (x.b.cell (p := ⟨b, j, none⟩) (World.block_lt_of_cell? _ _ h)).trans h

theorem wp_region_up {P : Program} {l : List Oper} {id : Nat} {Q : Exit → Act → World → Prop} {a : Act} {W : World} (hm : P.follows .mixedOrders = true) (hB : Region.lexB .any l.toArray = true)
    (h : wpQuiet P l.toArray (fun w' => ∃ x : Up W, w' = x.w) (fun a' => ∀ w', Below W.heap.size W w' → Q .normal a' w') l a) : (Code.region id l.toArray true).wp P Q a W := by
  refine wp_region_quiet (C := fun w' => ∃ x : Up W, w' = x.w) hm hB ⟨⟨{ W with drawn := W.drawn + 1 }, ⟨rfl, rfl, rfl, Nat.le_refl _, fun _ _ => rfl⟩⟩, rfl⟩ ?_
  have e : (fun a' => ∀ w', (∃ x : Up W, w' = x.w) → Q .normal a' w') = (fun a' => ∀ w', Below W.heap.size W w' → Q .normal a' w') := by
    funext a'
    refine propext ⟨fun k w' hw => k w' ⟨⟨w', hw⟩, rfl⟩, fun k w' hw => ?_⟩
    obtain ⟨x, rfl⟩ := hw
    exact k _ x.b
  rw [e]
  simpa using h
theorem up_same {P : Program} {W : World} {f : FuncId} {args : Array Value} {v : Value} {x : Up W} (h : Calls P f args x.w fun e w' => e = .returned v ∧ x.w = w') :
    Calls P f args x.w fun e w'' => e = .returned v ∧ ∃ y : Up W, w'' = y.w := h.mono fun _ _ ⟨he, hw⟩ => ⟨he, x, hw.symm⟩
theorem up_of {P : Program} {W : World} {f : FuncId} {args : Array Value} {v : Value} {x : Up W} (h : ∀ w', Below W.heap.size W w' → Calls P f args w' fun e w'' => e = .returned v ∧ Below w'.heap.size w' w'') :
    Calls P f args x.w fun e w'' => e = .returned v ∧ ∃ y : Up W, w'' = y.w :=
  (h x.w x.b).mono fun _ w' ⟨he, hw⟩ => ⟨he, ⟨w', x.b.trans (hw.mono x.b.size)⟩, rfl⟩

end Go.Proofs.Ytmkmaeblnnfheaa
/- The sending side of a stream in memory. -/
namespace Go.Proofs.Ytmkmaeblnnfheaa
open Go.RowKit

def sval (s : Sd) (A : Option Addr) (ca : Nat) (B : Option Addr) (cb : Nat) : Value := .agg #[.string s.d, .bool s.f, .int .i64 s.l, .int .i64 s.n, .slice A s.A.length ca, .slice B s.L.length cb]
/-- The two lists of a stream are read. -/
def SndAt (w : World) (s : Sd) (A : Option Addr) (ca : Nat) (B : Option Addr) (cb : Nat) : Prop := RngAt w A s.A.length s.A ∧ RngAt w B s.L.length s.L ∧ (A = none → ca = 0) ∧ (B = none → cb = 0)
theorem SndAt.below {w w' : World} {s : Sd} {A : Option Addr} {ca : Nat} {B : Option Addr} {cb : Nat} (h : SndAt w s A ca B cb) (hb : Below w.heap.size w w') : SndAt w' s A ca B cb := ⟨h.1.below hb, h.2.1.below hb, h.2.2⟩

/-- The cells of a struct of this kind at the head of a block. -/
def Box (w : World) (b : Nat) (d : ByteArray) (f : Bool) (l n : Int) (A : Option Addr) (na ca : Nat) (B : Option Addr) (nb cb : Nat) : Prop :=
  w.cell? ⟨b, 0, none⟩ = some (.string d) ∧ w.cell? ⟨b, 1, none⟩ = some (.bool f) ∧ w.cell? ⟨b, 2, none⟩ = some (.int .i64 l) ∧ w.cell? ⟨b, 3, none⟩ = some (.int .i64 n) ∧ w.cell? ⟨b, 4, none⟩ = some (.slice A na ca) ∧ w.cell? ⟨b, 5, none⟩ = some (.slice B nb cb)
section
variable {w w' : World} {b : Nat} {d : ByteArray} {f : Bool} {l n : Int} {A : Option Addr} {na ca : Nat} {B : Option Addr} {nb cb : Nat}
theorem Box.of_cells (h : ∀ j, w'.cell? ⟨b, j, none⟩ = w.cell? ⟨b, j, none⟩) (x : Box w b d f l n A na ca B nb cb) : Box w' b d f l n A na ca B nb cb :=
  ⟨(h 0).trans x.1, (h 1).trans x.2.1, (h 2).trans x.2.2.1, (h 3).trans x.2.2.2.1, (h 4).trans x.2.2.2.2.1, (h 5).trans x.2.2.2.2.2⟩
theorem Box.lt (x : Box w b d f l n A na ca B nb cb) : b < w.heap.size := World.block_lt_of_cell? _ _ x.1
theorem Box.below (x : Box w b d f l n A na ca B nb cb) (h : Below w.heap.size w w') : Box w' b d f l n A na ca B nb cb := x.of_cells fun j => h.cell (p := ⟨b, j, none⟩) x.lt
theorem Box.alloc (x : Box w b d f l n A na ca B nb cb) (o : Obj) : Box (w.alloc o) b d f l n A na ca B nb cb := x.below ((Below.refl _ _).alloc (Nat.le_refl _) o)
theorem Box.drew (x : Box w b d f l n A na ca B nb cb) : Box w.drew b d f l n A na ca B nb cb := x
theorem Box.new (w : World) : Box (w.alloc (.cells #[.string d, .bool f, .int .i64 l, .int .i64 n, .slice A na ca, .slice B nb cb] 25)) w.heap.size d f l n A na ca B nb cb := by
  refine ⟨?_, ?_, ?_, ?_, ?_, ?_⟩ <;> simp
end

theorem pos_impl (d : ByteArray) (f : Bool) (l n : Int) (LA LB : List Rg) (A : Option Addr) (ca : Nat) (B : Option Addr) (cb : Nat) (w : World) (hd : d.size ≤ 1000000) :
    Calls Try.prog 56 #[.agg #[.string d, .bool f, .int .i64 l, .int .i64 n, .slice A LA.length ca, .slice B LB.length cb]] w fun e w' => e = .returned (.int .i64 (Sd.pos ⟨d, f, l, n, LA, LB⟩)) ∧ ∃ o, w' = w.alloc o := by
  cases f
  all_goals
    go_enter Try.func56, Try.ntmps56
    go_wp2_with fail
    go_ret
    exact ⟨ret_int (by simp [Sd.pos]), _, rfl⟩
theorem pos_spec (d : ByteArray) (f : Bool) (l n : Int) (LA LB : List Rg) (A : Option Addr) (ca : Nat) (B : Option Addr) (cb : Nat) (w : World) (hd : d.size ≤ 1000000) :
    Calls Try.prog 91 #[.agg #[.string d, .bool f, .int .i64 l, .int .i64 n, .slice A LA.length ca, .slice B LB.length cb]] w fun e w' => e = .returned (.int .i64 (Sd.pos ⟨d, f, l, n, LA, LB⟩)) ∧ ∃ o, w' = w.alloc o := by
  cases f
  all_goals
    go_enter Try.func91, Try.ntmps91
    go_wp2_with fail
    go_ret
    exact ⟨ret_int (by simp [Sd.pos]), _, rfl⟩

theorem okS_yes {d : ByteArray} {f : Bool} {l n : Int} {LA LB : List Rg} (h1 : d.size ≤ 30) (h2 : 0 ≤ l ∧ l ≤ 30) (h3 : 0 ≤ n ∧ n ≤ Sd.pos ⟨d, f, l, n, LA, LB⟩) (h4 : min n (d.size : Int) ≤ l) (h5 : rvB LA = true) (h6 : rvB LB = true)
    (h7 : ∀ i, memB LA i = true → i < n) (h8 : ∀ i, memB LB i = true → i < n) (h9 : ∀ i : Int, 0 ≤ i → i < n → memB LA i = true → memB LB i = true → False) : okS ⟨d, f, l, n, LA, LB⟩ = true :=
  okS_iff.2 ⟨h1, h2.1, h2.2, h3.1, h3.2, h4, rvB_iff.1 h5, rvB_iff.1 h6, h7, h8, fun i a b => h9 i (mem0 (rvB_iff.1 h5) a) (h7 i a) a b⟩

attribute [local irreducible] Go.wpQuiet
theorem Box.up {w : World} {b : Nat} {d : ByteArray} {f : Bool} {l n : Int} {A : Option Addr} {na ca : Nat} {B : Option Addr} {nb cb : Nat} (x : Box w b d f l n A na ca B nb cb) (y : Up w) : Box y.w b d f l n A na ca B nb cb := x.below y.b
theorem up_box {P : Program} {W : World} {f : FuncId} {args : Array Value} {v : Value} {x : Up W} (h : ∀ w', Calls P f args w' fun e w'' => e = .returned v ∧ ∃ o, w'' = w'.alloc o) :
    Calls P f args x.w fun e w'' => e = .returned v ∧ ∃ y : Up W, w'' = y.w := up_of fun w' _ => (h w').mono fun _ _ ⟨he, o, ho⟩ => ⟨he, by rw [ho]; exact (Below.refl _ _).alloc (Nat.le_refl _) o⟩

theorem upto_next {P : Int → Prop} {j : Nat} (h : ∀ q : Int, 0 ≤ q → q < (j : Int) → P q) (h1 : P (j : Int)) (q : Int) (h0 : 0 ≤ q) (hq : q < ((j + 1 : Nat) : Int)) : P q := by
  rcases (show q < j ∨ q = j from by omega) with e | e
  · exact h q h0 e
  · rw [e]; exact h1
/-- A set of positions below n. -/
def Fine (L : List Rg) (n : Int) : Prop := rvB L = true ∧ ∀ i, memB L i = true → i < n
theorem memB_nil' (i : Int) : memB [] i = false := rfl
theorem fine_nil {L : List Rg} {n : Int} (h : L.length = 0) : Fine L n := by
  obtain rfl := List.eq_nil_of_length_eq_zero h
  exact ⟨rvB_true (by simp) (fun k hk => by simp at hk), fun i hi => by rw [memB_nil'] at hi; cases hi⟩
theorem fine_of {L : List Rg} {n : Int} {m : Nat} (h : L.length = m + 1) (hr : rvB L = true) (hl : (rth L m).hi < n) : Fine L n :=
  ⟨hr, fun i hi => lt_of_last (rvB_iff.1 hr).2.1 (by omega) (by rw [show L.length - 1 = m from by omega]; exact hl) hi⟩
theorem last_mem {L : List Rg} {m : Nat} (h : L.length = m + 1) (hr : rvB L = true) : memB L (rth L m).hi = true := mem_hi (rvB_iff.1 hr).2.1 (rth_mem (by omega))

end Go.Proofs.Ytmkmaeblnnfheaa
/- Numbers are removed from a set and added to it, on both sides. -/
namespace Go.Proofs.Ytmkmaeblnnfheaa
open Go.RowKit

theorem remove_next {L : List Rg} {k : Nat} {lo hi : Int} (h : k < L.length) : remove (L.take (k + 1)) lo hi = remove (L.take k) lo hi ++ cut1 (rth L k) lo hi := by
  unfold remove
  rw [List.take_succ_eq_append_getElem h, List.flatMap_append, List.flatMap_singleton, rth_eq h]
theorem cut_nn {r : Rg} {lo hi : Int} (h1 : ¬ r.lo < lo) (h2 : ¬ hi < r.hi) : cut1 r lo hi = [] := by unfold cut1; rw [if_neg h1, if_neg h2]; rfl
theorem cut_yn {r : Rg} {lo hi : Int} (h1 : r.lo < lo) (h2 : ¬ hi < r.hi) : cut1 r lo hi = [⟨r.lo, min r.hi (lo - 1)⟩] := by unfold cut1; rw [if_pos h1, if_neg h2]; rfl
theorem cut_ny {r : Rg} {lo hi : Int} (h1 : ¬ r.lo < lo) (h2 : hi < r.hi) : cut1 r lo hi = [⟨max r.lo (hi + 1), r.hi⟩] := by unfold cut1; rw [if_neg h1, if_pos h2]; rfl
theorem cut_yy {r : Rg} {lo hi : Int} (h1 : r.lo < lo) (h2 : hi < r.hi) : cut1 r lo hi = [⟨r.lo, min r.hi (lo - 1)⟩] ++ [⟨max r.lo (hi + 1), r.hi⟩] := by unfold cut1; rw [if_pos h1, if_pos h2]
theorem remove_len (L : List Rg) (k : Nat) (lo hi : Int) : (remove (L.take k) lo hi).length ≤ 2 * k := by
  induction k with
  | zero => simp [remove]
  | succ k ih =>
    rcases Nat.lt_or_ge k L.length with h | h
    · rw [remove_next h, List.length_append]
      have : (cut1 (rth L k) lo hi).length ≤ 2 := by unfold cut1; split <;> split <;> simp
      omega
    · rw [List.take_of_length_le (by omega)]
      rw [List.take_of_length_le (by omega)] at ih
      omega
theorem alloc_touch {w w' : World} {o : Obj} {B S : Nat} (ht : Touch (w.alloc o) w' B S) : Touch w w' B S :=
  ⟨ht.os, ht.tape, ht.output, by have := ht.size; simp at this; omega, fun k hk hb => (ht.block k (by simp; omega) hb).trans (heap_alloc_old w o hk)⟩
/-- A cell ahead of the zone that was touched, or behind it. -/
theorem touch_cell {w w' : World} {B S b j : Nat} (ht : Touch w w' B S) (hb : b < w.heap.size) (h : b < B ∨ S ≤ b) {v : Value} (hc : w.cell? ⟨b, j, none⟩ = some v) : w'.cell? ⟨b, j, none⟩ = some v :=
  (World.cell?_of_block (w := w) (a := ⟨b, j, none⟩) (ht.block b hb h)).trans hc

set_option maxHeartbeats 4000000 in
theorem removed_any (A : Option Addr) (n c : Nat) (L : List Rg) (w : World) (lo hi : Int) (h : RngAt w A n L) (hn : n ≤ 100000) (hlo : -1000000 ≤ lo ∧ lo ≤ 1000000) (hhi : -1000000 ≤ hi ∧ hi ≤ 1000000) :
    Calls Try.prog 50 #[.slice A n c, .int .i64 lo, .int .i64 hi] w (GotRng w (remove L lo hi)) := by
  have hl := hid_of h.1
  obtain ⟨hlo0, hlo1⟩ := hlo
  obtain ⟨hhi0, hhi1⟩ := hhi
  go_enter Try.func50, Try.ntmps50
  go_wp2_with fail
  go_loopw [7, 12] (fun s i wr => ∃ (k : Nat) (A' : Option Addr) (c' m : Nat), i = .int .i64 (k : Nat) ∧ s = .slice A' m c' ∧ k ≤ n ∧ m ≤ 2 * k ∧ RngIn wr w.heap.size wr.heap.size A' m c' (remove (L.take k) lo hi) ∧ Below w.heap.size w wr) (fun _ i _ => n - (intOf i).toNat)
  case atStart => exact ⟨0, none, 0, 0, rfl, rfl, Nat.zero_le _, by omega, RngIn.empty _ _ _ _, Below.refl _ _⟩
  case round =>
    obtain ⟨k, A', c', m, rfl, rfl, hk, hm, hI, hb⟩ := hrel
    have hsr := hb.size
    by_cases hlt : k < n
    · obtain ⟨g, off, rfl, hgl, hc⟩ := (h.below hb).2 (by omega)
      obtain ⟨c0, c1⟩ := hc k hlt
      have hnx := remove_next (L := L) (k := k) (lo := lo) (hi := hi) (by rw [hl.out]; exact hlt)
      obtain ⟨⟨rl, rh⟩, hx⟩ : ∃ x, x = rth L k := ⟨_, rfl⟩
      rw [← hx] at c0 c1 hnx
      dsimp only at c0 c1
      have HNX := hid_of hnx
      clear hc hx hnx
      obtain ⟨mv, hmv⟩ : ∃ v, (if lo - 1 < rh then lo - 1 else rh) = v := ⟨_, rfl⟩
      obtain ⟨xv, hxv⟩ : ∃ v, (if rl < hi + 1 then hi + 1 else rl) = v := ⟨_, rfl⟩
      have HMV : Hid (min rh (lo - 1) = mv) := by unfold Hid; rw [← hmv]; split <;> omega
      have HXV : Hid (max rl (hi + 1) = xv) := by unfold Hid; rw [← hxv]; split <;> omega
      by_cases t1 : rl < lo
      · by_cases t2 : hi < rh
        · rw [cut_yy t1 t2, ← List.append_assoc] at HNX
          dsimp only at HNX
          rw [HMV.out, HXV.out] at HNX
          go_wp2_with (first
            | (at_builtin; refine wpList_snoc_rng _ rfl _ _ rfl ⟨rl, mv⟩ rfl ((hI.alloc _).alloc _) (by simp; omega) (by omega) (by simp) rfl (by simp) (by simp) ?_; intro A2 c2 w2 hI2 ht2; have hs2 := ht2.size; simp at hs2; have r0 := touch_cell ht2 (b := wr.heap.size) (j := 0) (by simp; omega) (.inr (Nat.le_refl _)) (v := .int .i64 rl) (by simp); have r1 := touch_cell ht2 (b := wr.heap.size) (j := 1) (by simp; omega) (.inr (Nat.le_refl _)) (v := .int .i64 rh) (by simp); have hb2 : Below w.heap.size w w2 := below_touch hb (alloc_touch (alloc_touch ht2)) (Nat.le_refl _) hsr; clear ht2)
            | (at_builtin; refine wpList_snoc_rng _ rfl _ _ rfl ⟨xv, rh⟩ rfl (hI2.alloc _) (by simp; omega) (by omega) (by simp) rfl (by simp) (by simp) ?_; intro A3 c3 w3 hI3 ht3))
          go_roundw
          case rel => exact ⟨k + 1, A3, c3, m + 1 + 1, by go_num, rfl, by omega, by omega, by rw [HNX.out]; exact hI3, below_touch hb2 (alloc_touch ht3) (Nat.le_refl _) (by omega)⟩
          case measure => simp [intOf]; omega
        · rw [cut_yn t1 t2] at HNX
          dsimp only at HNX
          rw [HMV.out] at HNX
          go_wp2_with (at_builtin; refine wpList_snoc_rng _ rfl _ _ rfl ⟨rl, mv⟩ rfl ((hI.alloc _).alloc _) (by simp; omega) (by omega) (by simp) rfl (by simp) (by simp) ?_; intro A2 c2 w2 hI2 ht2; have hs2 := ht2.size; simp at hs2; have r0 := touch_cell ht2 (b := wr.heap.size) (j := 0) (by simp; omega) (.inr (Nat.le_refl _)) (v := .int .i64 rl) (by simp); have r1 := touch_cell ht2 (b := wr.heap.size) (j := 1) (by simp; omega) (.inr (Nat.le_refl _)) (v := .int .i64 rh) (by simp); have hb2 : Below w.heap.size w w2 := below_touch hb (alloc_touch (alloc_touch ht2)) (Nat.le_refl _) hsr; clear ht2)
          go_roundw
          case rel => exact ⟨k + 1, A2, c2, m + 1, by go_num, rfl, by omega, by omega, by rw [HNX.out]; exact hI2, hb2⟩
          case measure => simp [intOf]; omega
      · by_cases t2 : hi < rh
        · rw [cut_ny t1 t2] at HNX
          dsimp only at HNX
          rw [HXV.out] at HNX
          go_wp2_with (at_builtin; refine wpList_snoc_rng _ rfl _ _ rfl ⟨xv, rh⟩ rfl ((hI.alloc _).alloc _) (by simp; omega) (by omega) (by simp) rfl (by simp) (by simp) ?_; intro A2 c2 w2 hI2 ht2; have hb2 : Below w.heap.size w w2 := below_touch hb (alloc_touch (alloc_touch ht2)) (Nat.le_refl _) hsr; clear ht2)
          go_roundw
          case rel => exact ⟨k + 1, A2, c2, m + 1, by go_num, rfl, by omega, by omega, by rw [HNX.out]; exact hI2, hb2⟩
          case measure => simp [intOf]; omega
        · rw [cut_nn t1 t2, List.append_nil] at HNX
          go_wp2_with fail
          go_roundw
          case rel => exact ⟨k + 1, A', c', m, by go_num, rfl, by omega, by omega, by rw [HNX.out]; exact (hI.alloc _).mono (Nat.le_refl _) (by simp), ba hb _⟩
          case measure => simp [intOf]; omega
    · have hkn : k = n := by omega
      subst hkn
      clear hlt
      rw [List.take_of_length_le (by rw [hl.out]; exact Nat.le_refl _)] at hI
      have hm2 := hI.1
      go_wp2_with fail
      go_ret
      exact ⟨A', c', by rw [hm2]; rfl, by rw [hm2]; exact hI, hb⟩

end Go.Proofs.Ytmkmaeblnnfheaa
/- What a drawn stream and its sent parts satisfy. -/
namespace Go.Proofs.Ytmkmaeblnnfheaa

structure Good (s : Sd) (L : List Pt) : Prop where
  sv : SV s
  all : ∀ p, p ∈ L → Sent s p
theorem next_keeps {s : Sd} {k : Int} (h : SV s) (hk : 1 ≤ k) : (next s k).1.d = s.d ∧ (next s k).1.f = s.f ∧ s.n ≤ (next s k).1.n := by
  rcases nx_cases h hk with ⟨r, T, hi, hL, h0, h1, h2, h3, h4, hk', he, e⟩ | ⟨hL, hn, e⟩ | ⟨m, hL, h0, h1, hk', hl, he, hr, e⟩
  · rw [e]; exact ⟨rfl, rfl, Int.le_refl _⟩
  · rw [e]; exact ⟨rfl, rfl, Int.le_refl _⟩
  · rw [e]; exact ⟨rfl, rfl, by show s.n ≤ m; omega⟩
theorem Good.nextNo {s : Sd} {L : List Pt} (h : Good s L) {k : Int} (hk : 1 ≤ k) : Good (next s k).1 L := by
  obtain ⟨h1, h2, h3⟩ := next_keeps h.sv hk
  exact ⟨(next_good h.sv hk).1, fun p hp => (h.all p hp).of h1 h2 h3⟩
theorem Good.nextYes {s : Sd} {L : List Pt} (h : Good s L) {k : Int} (hk : 1 ≤ k) (hb : (next s k).2.2 = true) : Good (next s k).1 (L ++ [(next s k).2.1]) := by
  obtain ⟨h1, h2, h3⟩ := next_keeps h.sv hk
  refine ⟨(next_good h.sv hk).1, fun p hp => ?_⟩
  rcases List.mem_append.1 hp with e | e
  · exact (h.all p e).of h1 h2 h3
  · rw [List.mem_singleton.1 e]
    exact ((next_good h.sv hk).2 hb).1
theorem Good.ack {s : Sd} {L : List Pt} (h : Good s L) {p : Pt} (hp : p ∈ L) : Good (ack s p) L :=
  ⟨h.sv.ack (h.all p hp), fun q hq => (h.all q hq).of rfl rfl (Int.le_refl _)⟩
theorem Good.loss {s : Sd} {L : List Pt} (h : Good s L) {p : Pt} (hp : p ∈ L) : Good (loss s p) L :=
  ⟨h.sv.loss (h.all p hp), fun q hq => (h.all q hq).of rfl rfl (Int.le_refl _)⟩
theorem rv_nil : RV [] := ⟨by simp, ⟨fun r hr => (by cases hr), List.Pairwise.nil⟩, fun r hr => (by cases hr)⟩
theorem good_start {d : ByteArray} {f : Bool} {l : Int} (hd : d.size ≤ 30) (h0 : 0 ≤ l) (h1 : l ≤ 30) : Good ⟨d, f, l, 0, [], []⟩ [] :=
  ⟨⟨hd, h0, h1, Int.le_refl _, by have := (pos_le ⟨d, f, l, 0, [], []⟩).1; dsimp only at this ⊢; omega, by dsimp only; omega, rv_nil, rv_nil, fun i hi => (by cases hi), fun i hi => (by cases hi), fun i hi => (by cases hi)⟩, fun p hp => (by cases hp)⟩
/-- What bounds of a sent part the walks want. -/
theorem Sent.bd {s : Sd} {p : Pt} (h : Sent s p) (hs : SV s) : (0 ≤ p.o ∧ p.o ≤ 30) ∧ p.d.size ≤ 30 ∧ p.o ≤ p.last ∧ p.last ≤ 30 := by
  have h1 := h.o0
  have h2 := h.o1
  have h3 := h.lo
  have h4 := h.hi
  have h5 := h.fit
  have h6 := hs.n31
  have h7 := hs.len
  exact ⟨⟨h1, h2⟩, by omega, h3, by omega⟩
theorem SV.bd {s : Sd} (h : SV s) : s.d.size ≤ 30 ∧ (0 ≤ s.l ∧ s.l ≤ 30) ∧ (0 ≤ s.n ∧ s.n ≤ 31) ∧ s.A.length ≤ 16 ∧ s.L.length ≤ 16 := ⟨h.len, ⟨h.l0, h.l1⟩, ⟨h.n0, h.n31⟩, h.a.1, h.b.1⟩

end Go.Proofs.Ytmkmaeblnnfheaa
/- When a part was sent, as tests on its fields; bytes as lists. No program in sight. -/
namespace Go.Proofs.Ytmkmaeblnnfheaa

theorem bytes_loop (b : ByteArray) : ∀ (m i : Nat) (r : List UInt8), b.size - i = m → ByteArray.toList.loop b i r = r.reverse ++ b.data.toList.drop i := by
  intro m
  induction m with
  | zero =>
    intro i r h
    unfold ByteArray.toList.loop
    have hs : b.data.toList.length = b.size := by simp
    rw [if_neg (by omega), List.drop_eq_nil_of_le (by omega)]
    simp
  | succ m ih =>
    intro i r h
    unfold ByteArray.toList.loop
    have hs : b.data.toList.length = b.size := by simp
    rw [if_pos (by omega), ih (i + 1) _ (by omega), List.drop_eq_getElem_cons (i := i) (by omega)]
    have : b.get! i = b.data.toList[i]'(by omega) := by
      have hlt : i < b.data.size := by have : b.data.size = b.size := rfl; omega
      have e : b.get! i = b.data[i]! := by cases b; rfl
      rw [e, getElem!_pos b.data i hlt]
      simp
    rw [this]
    simp
theorem bytes_toList (b : ByteArray) : b.toList = b.data.toList := by
  unfold ByteArray.toList
  rw [bytes_loop b _ 0 [] rfl]
  simp
theorem bytes_beq {a b : ByteArray} : (a.toList == b.toList) = true ↔ a = b := by
  rw [beq_iff_eq, bytes_toList, bytes_toList]
  exact ⟨fun h => by cases a; cases b; simp at h; rw [h], fun h => by rw [h]⟩
/-- Does s begin with p? -/
def pre (s p : ByteArray) : Bool := decide (p.size ≤ s.size) && ((s.extract 0 p.size).toList == p.toList)
theorem pre_iff {d p : ByteArray} {o : Int} (h0 : 0 ≤ o) (h1 : o ≤ d.size) : pre (d.extract o.toNat d.size) p = true ↔ o + p.size ≤ d.size ∧ d.extract o.toNat (o.toNat + p.size) = p := by
  unfold pre
  rw [Bool.and_eq_true, decide_eq_true_iff, bytes_beq, ByteArray.size_extract]
  constructor
  · rintro ⟨h2, h3⟩
    refine ⟨by omega, ?_⟩
    rw [ByteArray.extract_extract] at h3
    simpa [Nat.min_eq_left (show o.toNat + p.size ≤ d.size by omega)] using h3
  · rintro ⟨h2, h3⟩
    refine ⟨by omega, ?_⟩
    rw [ByteArray.extract_extract]
    simpa [Nat.min_eq_left (show o.toNat + p.size ≤ d.size by omega)] using h3

end Go.Proofs.Ytmkmaeblnnfheaa
