/- Merged: SendLen, SndK, DrwS, DrwA, DrwN, SndT, SndLp, SndL, Flt, FltX, SeqE, SndQ, UpTail, Ret, SndO. -/
import Derived.Test.YtmkmaeblnnfheaaMg3
import Derived.Test.YtmkmaeblnnfheaaMg1
import Derived.Test.YtmkmaeblnnfheaaMg2
import Derived.StillTail
/- The sets of what SendNext hands back are short. -/
namespace Go.Proofs.Ytmkmaeblnnfheaa

theorem sendNext_len (s : Sd) (k : Int) : (sendNext s k).1.A.length ≤ 16 ∧ (sendNext s k).1.L.length ≤ 16 := by
  unfold sendNext
  split
  · rename_i h
    have h1 := (next_good (okS_iff.1 h.1) (of_decide_eq_true h.2).1).1
    exact ⟨h1.a.1, h1.b.1⟩
  · exact ⟨by show 0 ≤ 16; decide, by show 0 ≤ 16; decide⟩

end Go.Proofs.Ytmkmaeblnnfheaa
/- A stream and a mark. -/
namespace Go.Proofs.Ytmkmaeblnnfheaa
open Go.RowKit
attribute [local irreducible] Go.wpQuiet

/-- A stream in new memory and a mark were handed back. -/
def GotSb (w : World) (r : Sd × Bool) (e : Ending) (w' : World) : Prop := (∃ v, e = .returned (.tuple #[v, .bool r.2]) ∧ GotSd w r.1 v w') ∧ Below w.heap.size w w'
noncomputable def sendWrite (s : Sd) (b : ByteArray) : Sd × Bool := if okS s = true then write s b else (sd0, false)
noncomputable def sendGrant (s : Sd) (m : Int) : Sd × Bool := if okS s = true ∧ decide (0 ≤ m ∧ m ≤ 30) = true then (if m < s.l then (s, false) else ({ s with l := m }, true)) else (sd0, false)

end Go.Proofs.Ytmkmaeblnnfheaa
/- What the drawing of a stream carries: the reader, the stream in a block of its own, its two sets and the parts that were sent in memory that is new. -/
namespace Go.Proofs.Ytmkmaeblnnfheaa
open Go.RowKit

structure SS (w wr : World) (H R rb m xb : Nat) (s : Sd) (A : Option Addr) (ca : Nat) (B : Option Addr) (cb : Nat) (P : Option Addr) (cp : Nat) (L : List Pt) : Prop where
  rd : Rd wr R rb m
  g : w.grownBy wr (some rb)
  lt : rb < w.heap.size
  le : w.heap.size ≤ xb
  xH : xb < H
  hH : H ≤ wr.heap.size
  x : Own6 wr xb s.d s.f s.l s.n A s.A.length ca B s.L.length cb
  a : RngIn wr (xb + 1) H A s.A.length ca s.A
  b : RngIn wr (xb + 1) H B s.L.length cb s.L
  ap : Apart A ca B cb
  p : PrtIn wr (xb + 1) H P L.length cp L

section
variable {w wr w' : World} {H R rb m xb : Nat} {s : Sd} {A : Option Addr} {ca : Nat} {B : Option Addr} {cb : Nat} {P : Option Addr} {cp : Nat} {L : List Pt}
theorem grown_of_below' {a b : World} (h : Below a.heap.size a b) : a.grownBy b none := ⟨h.os, h.tape, h.output, h.size, fun k hk _ => h.block k hk⟩
theorem grown_below {a b c : World} {row : Option Nat} (h : a.grownBy b row) (hb : Below b.heap.size b c) : a.grownBy c row :=
  ⟨hb.os.trans h.os, hb.tape.trans h.tape, hb.output.trans h.output, Nat.le_trans h.size hb.size, fun k hk hr => (hb.block k (Nat.lt_of_lt_of_le hk h.size)).trans (h.block k hk hr)⟩
theorem Own6.far {b : Nat} {d : ByteArray} {f : Bool} {l n : Int} {na nb : Nat} (h : Own6 w b d f l n A na ca B nb cb) (hg : w.grownBy w' (some rb)) (hne : b ≠ rb) : Own6 w' b d f l n A na ca B nb cb := by
  have e := hg.block b h.1.lt (by intro e; injection e with e; exact hne e)
  exact ⟨h.1.of_cells fun j => World.cell?_of_block (w := w) (a := ⟨b, j, none⟩) e, fun j => (World.frozen?_of_block (w := w) (a := ⟨b, j, none⟩) e).trans (h.2 j)⟩
theorem RngIn.far {Lo Hi n c : Nat} {M : List Rg} (h : RngIn w Lo Hi A n c M) (hg : w.grownBy w' (some rb)) (hrb : rb < Lo) : RngIn w' Lo Hi A n c M := by
  refine ⟨h.1, h.2.1, ?_⟩
  rcases h.2.2 with h0 | ⟨ho, g, rfl, h1, h2, h3⟩
  · exact .inl h0
  · have hr : RowIn 40 2 w Lo Hi (some ⟨g, 0, none⟩) n c (rcells M) := ⟨h.2.1, .inr ⟨ho, g, rfl, h1, h2, h3⟩⟩
    rcases (RowIn.same hr (w' := w') hg.size fun g' e hb _ => by cases e; exact hg.block g h3 (by intro e; injection e with e; omega)).2 with h0 | h0
    · exact .inl h0
    · exact .inr h0
theorem SS.below (h : SS w wr H R rb m xb s A ca B cb P cp L) (hb : Below wr.heap.size wr w') : SS w w' H R rb m xb s A ca B cb P cp L :=
  ⟨h.rd.far (grown_of_below' hb) (fun _ e => by cases e), grown_below h.g hb, h.lt, h.le, h.xH, Nat.le_trans h.hH hb.size, h.x.under hb h.x.1.lt, h.a.below hb, h.b.below hb, h.ap, h.p.below hb⟩
theorem SS.mono (h : SS w wr H R rb m xb s A ca B cb P cp L) {m' : Nat} (hm : m ≤ m') : SS w wr H R rb m' xb s A ca B cb P cp L := ⟨h.rd.mono hm, h.g, h.lt, h.le, h.xH, h.hH, h.x, h.a, h.b, h.ap, h.p⟩
theorem SS.lift (h : SS w wr H R rb m xb s A ca B cb P cp L) {H' : Nat} (h1 : H ≤ H') (h2 : H' ≤ wr.heap.size) : SS w wr H' R rb m xb s A ca B cb P cp L := ⟨h.rd, h.g, h.lt, h.le, Nat.lt_of_lt_of_le h.xH h1, h2, h.x, h.a.mono (Nat.le_refl _) h1, h.b.mono (Nat.le_refl _) h1, h.ap, h.p.mono (Nat.le_refl _) h1⟩
theorem SS.drew (h : SS w wr H R rb m xb s A ca B cb P cp L) : SS w wr.drew H R rb m xb s A ca B cb P cp L := ⟨h.rd, grown_drew h.g, h.lt, h.le, h.xH, h.hH, h.x, h.a, h.b, h.ap, h.p⟩
theorem SS.drewN (h : SS w wr H R rb m xb s A ca B cb P cp L) (n : Nat) : SS w (wr.drewN n) H R rb m xb s A ca B cb P cp L := ⟨h.rd, grown_drewN h.g n, h.lt, h.le, h.xH, h.hH, h.x, h.a, h.b, h.ap, h.p⟩
theorem SS.alloc (h : SS w wr H R rb m xb s A ca B cb P cp L) (o : Obj) : SS w (wr.alloc o) H R rb m xb s A ca B cb P cp L := h.below ((Below.refl _ _).alloc (Nat.le_refl _) o)
theorem SS.turned (h : SS w wr H R rb m xb s A ca B cb P cp L) {m' : Nat} (hr : Rd w' R rb m') (hg : wr.grownBy w' (some rb)) : SS w w' H R rb m' xb s A ca B cb P cp L :=
  have h1 := h.lt
  have h2 := h.le
  ⟨hr, grown_trans h.g hg, h.lt, h.le, h.xH, Nat.le_trans h.hH hg.size, h.x.far hg (by omega), h.a.far hg (by omega), h.b.far hg (by omega), h.ap, h.p.far hg (by omega)⟩
theorem SS.pick (h : SS w wr H R rb m xb s A ca B cb P cp L) (hm : m ≤ 1000000) (k : Int) (hk : 1 ≤ k) (hk' : k ≤ 1000000) :
    Calls Try.prog 63 #[.pointer (some ⟨rb, 0, none⟩), .int .i64 k] wr fun e w' => ∃ v : Int, e = .returned (.int .i64 v) ∧ 0 ≤ v ∧ v < k ∧ SS w w' H R rb (m + 1) xb s A ca B cb P cp L ∧ wr.grownBy w' (some rb) :=
  (pick_any wr rb m k h.rd (by omega) hk hk').mono fun _ _ ⟨v, he, h0, h1, hr, hg⟩ => ⟨v, he, h0, h1, h.turned hr hg, hg⟩
/-- A store above what is carried. -/
theorem SS.storeHi (h : SS w wr H R rb m xb s A ca B cb P cp L) {p : Addr} (hp : H ≤ p.block) (u : Value) : SS w (wr.setCell p u) H R rb m xb s A ca B cb P cp L :=
  have h1 := h.lt
  have h2 := h.le
  have h3 := h.xH
  have t : Touch wr (wr.setCell p u) p.block (p.block + 1) := (Touch.refl wr p.block (p.block + 1)).setCell (Nat.le_refl _) (Nat.lt_succ_self _) u
  ⟨h.rd.setCell (by omega) u, grown_setCell h.g (by omega) u, h.lt, h.le, h.xH, by simpa [World.setCell] using h.hH, h.x.other (by omega) u, h.a.touch t (.inl hp), h.b.touch t (.inl hp), h.ap, ⟨h.p.1, h.p.2.touch t (.inl hp)⟩⟩
/-- The stream's block takes a new value; its sets lie in memory above. -/
theorem SS.store {s' : Sd} {A' B' : Option Addr} {ca' cb' : Nat} (h : SS w wr H R rb m xb s A ca B cb P cp L) (j : Nat) (u : Value) (hx : Own6 (wr.setCell ⟨xb, j, none⟩ u) xb s'.d s'.f s'.l s'.n A' s'.A.length ca' B' s'.L.length cb')
    (ha : RngIn wr (xb + 1) H A' s'.A.length ca' s'.A) (hb : RngIn wr (xb + 1) H B' s'.L.length cb' s'.L) (hap : Apart A' ca' B' cb') :
    SS w (wr.setCell ⟨xb, j, none⟩ u) H R rb m xb s' A' ca' B' cb' P cp L :=
  have h1 := h.lt
  have h2 := h.le
  ⟨h.rd.setCell (by show rb < xb; omega) u, grown_setCell h.g (by show w.heap.size ≤ xb; omega) u, h.lt, h.le, h.xH, by simpa [World.setCell] using h.hH, hx, ha.setLow (Nat.lt_succ_self _) u, hb.setLow (Nat.lt_succ_self _) u, hap, h.p.setLow (Nat.lt_succ_self _) u⟩
theorem SS.setD (h : SS w wr H R rb m xb s A ca B cb P cp L) (d' : ByteArray) : SS w (wr.setCell ⟨xb, 0, none⟩ (.string d')) H R rb m xb { s with d := d' } A ca B cb P cp L := h.store 0 _ (h.x.set0 d') h.a h.b h.ap
theorem SS.setF (h : SS w wr H R rb m xb s A ca B cb P cp L) (f' : Bool) : SS w (wr.setCell ⟨xb, 1, none⟩ (.bool f')) H R rb m xb { s with f := f' } A ca B cb P cp L := h.store 1 _ (h.x.set1 f') h.a h.b h.ap
theorem SS.setL (h : SS w wr H R rb m xb s A ca B cb P cp L) (l' : Int) : SS w (wr.setCell ⟨xb, 2, none⟩ (.int .i64 l')) H R rb m xb { s with l := l' } A ca B cb P cp L := h.store 2 _ (h.x.set2 l') h.a h.b h.ap
theorem SS.setN (h : SS w wr H R rb m xb s A ca B cb P cp L) (n' : Int) : SS w (wr.setCell ⟨xb, 3, none⟩ (.int .i64 n')) H R rb m xb { s with n := n' } A ca B cb P cp L := h.store 3 _ (h.x.set3 n') h.a h.b h.ap
/-- The stream takes the value of another one, that is new. -/
theorem SS.setAll (h : SS w wr H R rb m xb s A ca B cb P cp L) (s' : Sd) {A' B' : Option Addr} {ca' cb' : Nat}
    (ha : RngIn wr (xb + 1) H A' s'.A.length ca' s'.A) (hb : RngIn wr (xb + 1) H B' s'.L.length cb' s'.L) (hap : Apart A' ca' B' cb') :
    SS w ((((((wr.setCell ⟨xb, 0, none⟩ (.string s'.d)).setCell ⟨xb, 1, none⟩ (.bool s'.f)).setCell ⟨xb, 2, none⟩ (.int .i64 s'.l)).setCell ⟨xb, 3, none⟩ (.int .i64 s'.n)).setCell ⟨xb, 4, none⟩ (.slice A' s'.A.length ca')).setCell ⟨xb, 5, none⟩ (.slice B' s'.L.length cb')) H R rb m xb s' A' ca' B' cb' P cp L := by
  have h1 := h.lt
  have h2 := h.le
  refine ⟨?_, ?_, h.lt, h.le, h.xH, by simpa [World.setCell] using h.hH, h.x.setAll s'.d s'.f s'.l s'.n A' s'.A.length ca' B' s'.L.length cb', ?_, ?_, hap, ?_⟩
  · repeat refine Rd.setCell ?_ (by show rb < xb; omega) _
    exact h.rd
  · repeat refine grown_setCell ?_ (by show w.heap.size ≤ xb; omega) _
    exact h.g
  · repeat refine RngIn.setLow ?_ (Nat.lt_succ_self _) _
    exact ha
  · repeat refine RngIn.setLow ?_ (Nat.lt_succ_self _) _
    exact hb
  · repeat refine PrtIn.setLow ?_ (Nat.lt_succ_self _) _
    exact h.p
theorem SS.noParts {P : Option Addr} {cp : Nat} (h : SS w wr H R rb m xb s A ca B cb P cp []) (P' : Option Addr) : SS w wr H R rb m xb s A ca B cb P' 0 [] := ⟨h.rd, h.g, h.lt, h.le, h.xH, h.hH, h.x, h.a, h.b, h.ap, PrtIn.empty _ _ _⟩
/-- A part was appended. -/
theorem SS.snoc (h : SS w wr H R rb m xb s A ca B cb P cp L) {g S : Nat} (hg : xb + 1 ≤ g) (hS : (S = g ∧ wr.heap.size ≤ g) ∨ (S = g + 1 ∧ ∃ cur, wr.heap[g]? = some (.cells cur 27 (0, 0)))) {P' : Option Addr} {cp' : Nat} {y : Pt}
    (hp : PrtIn w' g w'.heap.size P' (L.length + 1) cp' (L ++ [y])) (t : Touch wr w' g S) : SS w w' w'.heap.size R rb m xb s A ca B cb P' cp' (L ++ [y]) := by
  have h1 := h.lt
  have h2 := h.le
  have h3 := h.xH
  have h4 := h.hH
  have hp' : PrtIn w' (xb + 1) w'.heap.size P' (L ++ [y]).length cp' (L ++ [y]) := by rw [List.length_append]; exact hp.mono hg (Nat.le_refl _)
  rcases hS with ⟨rfl, hS⟩ | ⟨rfl, hS⟩
  · have hb : Below wr.heap.size wr w' := ⟨t.os, t.tape, t.output, t.size, fun k hk => t.block k hk (by omega)⟩
    have k := (h.lift h4 (Nat.le_refl _)).below hb
    have k := k.lift hb.size (Nat.le_refl _)
    exact ⟨k.rd, k.g, k.lt, k.le, k.xH, k.hH, k.x, k.a, k.b, k.ap, hp'⟩
  · have hx := h.x
    have ex := t.block xb hx.1.lt (by omega)
    have hsz := t.size
    refine ⟨?_, ⟨t.os.trans h.g.os, t.tape.trans h.g.tape, t.output.trans h.g.output, Nat.le_trans h.g.size t.size, fun k hk hne => (t.block k (Nat.lt_of_lt_of_le hk h.g.size) (by omega)).trans (h.g.block k hk hne)⟩, h.lt, h.le, by omega, Nat.le_refl _, ?_, (h.a.keeps hS t).mono (Nat.le_refl _) (by omega), (h.b.keeps hS t).mono (Nat.le_refl _) (by omega), h.ap, hp'⟩
    · obtain ⟨a, l, c0, q, zs, hblk, hl, hq, hB, hb⟩ := h.rd
      have hrs := (Array.getElem?_eq_some_iff.1 hblk).1
      refine ⟨a, l, c0, q, zs, (t.block rb hrs (by omega)).trans hblk, hl, hq, hB, ?_⟩
      rcases hb with hb | ⟨b, off, ha, hne, hc, hz⟩
      · exact .inl hb
      · exact .inr ⟨b, off, ha, hne, fun i hi => (World.cell?_of_block (w := wr) (a := ⟨b, off + i, none⟩) (t.block b (by omega) (by omega))).trans (hc i hi), hz⟩
    · exact ⟨hx.1.of_cells fun j => World.cell?_of_block (w := wr) (a := ⟨xb, j, none⟩) ex, fun j => (World.frozen?_of_block (w := wr) (a := ⟨xb, j, none⟩) ex).trans (hx.2 j)⟩
/-- Where a part may be appended. -/
theorem SS.room (h : SS w wr H R rb m xb s A ca B cb P cp L) : ∃ g S, xb + 1 ≤ g ∧ g ≤ wr.heap.size ∧ PrtIn wr g S P L.length cp L ∧ ((S = g ∧ wr.heap.size ≤ g) ∨ (S = g + 1 ∧ ∃ cur, wr.heap[g]? = some (.cells cur 27 (0, 0)))) := by
  have hx := h.x.1.lt
  have h4 := h.hH
  rcases Nat.eq_zero_or_pos L.length with e | hn
  · obtain rfl : L = [] := List.eq_nil_of_length_eq_zero e
    rcases h.p.2.2 with ⟨_, hc⟩ | ⟨ho, g, rfl, h1, h2, h3⟩
    · exact ⟨wr.heap.size, wr.heap.size, by omega, Nat.le_refl _, ⟨rfl, h.p.2.1, .inl ⟨rfl, hc⟩⟩, .inl ⟨rfl, Nat.le_refl _⟩⟩
    · refine ⟨g, g + 1, h1, Nat.le_of_lt h3, ⟨rfl, h.p.2.1, .inr ⟨⟨ho.1, ?_⟩, g, rfl, Nat.le_refl _, Nat.lt_succ_self _, h3⟩⟩, .inr ⟨rfl, ?_⟩⟩
      · rcases ho.2 with e | ⟨g', c', cur, e, q1, q⟩
        · exact .inl e
        · cases e
          exact .inr ⟨g, _, cur, rfl, Nat.le_refl _, q⟩
      · rcases ho.2 with ⟨e, _⟩ | ⟨g', c', cur, e, q1, q, _⟩
        · cases e
        · cases e
          exact ⟨cur, q⟩
  · obtain ⟨g, e, h1, h2, h3⟩ := h.p.tight hn
    subst e
    refine ⟨g, g + 1, h1, Nat.le_of_lt ?_, h3, .inr ⟨rfl, h.p.kind hn⟩⟩
    obtain ⟨cur, hk⟩ := h.p.kind hn
    exact (Array.getElem?_eq_some_iff.1 hk).1
end

theorem Own6.new' {W : World} {b : Nat} {d : ByteArray} {f : Bool} {l n : Int} {A : Option Addr} {na ca : Nat} {B : Option Addr} {nb cb : Nat} (h : W.heap.size = b) : Own6 (W.alloc (.cells #[.string d, .bool f, .int .i64 l, .int .i64 n, .slice A na ca, .slice B nb cb] 25)) b d f l n A na ca B nb cb := h ▸ Own6.new W
theorem Own3.new' {W : World} {b : Nat} {o : Int} {d : ByteArray} {f : Bool} (h : W.heap.size = b) : Own3 (W.alloc (.cells #[.int .i64 o, .string d, .bool f] 27)) b o d f := h ▸ Own3.new W o d f
theorem Own3.far {w w' : World} {rb b : Nat} {o : Int} {d : ByteArray} {f : Bool} (h : Own3 w b o d f) (hg : w.grownBy w' (some rb)) (hne : b ≠ rb) : Own3 w' b o d f := by
  have e := hg.block b h.lt (by intro e; injection e with e; exact hne e)
  exact h.same (fun j => World.cell?_of_block (w := w) (a := ⟨b, j, none⟩) e) fun j => World.frozen?_of_block (w := w) (a := ⟨b, j, none⟩) e
theorem Own6.drew {w : World} {b : Nat} {d : ByteArray} {f : Bool} {l n : Int} {A : Option Addr} {na ca : Nat} {B : Option Addr} {nb cb : Nat} (h : Own6 w b d f l n A na ca B nb cb) : Own6 w.drew b d f l n A na ca B nb cb := h
theorem Own3.drew {w : World} {b : Nat} {o : Int} {d : ByteArray} {f : Bool} (h : Own3 w b o d f) : Own3 w.drew b o d f := h

end Go.Proofs.Ytmkmaeblnnfheaa
/- Small draws: a limit, payload, the text of streams; a new stream. -/
namespace Go.Proofs.Ytmkmaeblnnfheaa
open Go.RowKit
attribute [local irreducible] Go.wpQuiet

set_option maxHeartbeats 1000000 in
theorem stream_any (w : World) : Calls Try.prog 95 #[] w fun e w' => (∃ D, e = .returned (.string D) ∧ D.size = 30) ∧ w = w' := by
  go_enter Try.func95, Try.ntmps95
  go_wp2_with fail
  go_ret
  exact ⟨⟨_, rfl, rfl⟩, rfl⟩

set_option maxRecDepth 100000 in
set_option maxHeartbeats 1000000 in
theorem limit_any {B : Nat} (w : World) (rb n : Nat) (h : Rd w B rb n) (hn : n ≤ 1000000) :
    Calls Try.prog 89 #[.pointer (some ⟨rb, 0, none⟩)] w (Drawn w B rb n 2 (-1) 31) := by
  have hlt := h.lt
  go_enter Try.func89, Try.ntmps89
  go_wp2_with fail
  refine (pick_any w rb n 8 h (by omega) (by omega) (by omega)).mono ?_
  rintro e w1 ⟨k, rfl, hk0, hk1, hr1, hg1⟩
  by_cases hk : k = 0
  · subst hk
    have hs := hg1.size
    go_wp2_with fail
    refine (pick_any _ rb (n + 1) 4 (hr1.alloc _) (by omega) (by omega) (by omega)).mono ?_
    rintro e w2 ⟨j, rfl, hj0, hj1, hr2, hg2⟩
    have c0 := far_cell hg2 (b := w1.heap.size) (j := 0) (World.cell?_alloc_new _ _ _ _) (by omega)
    have c1 := far_cell hg2 (b := w1.heap.size) (j := 1) (World.cell?_alloc_new _ _ _ _) (by omega)
    have c2 := far_cell hg2 (b := w1.heap.size) (j := 2) (World.cell?_alloc_new _ _ _ _) (by omega)
    have c3 := far_cell hg2 (b := w1.heap.size) (j := 3) (World.cell?_alloc_new _ _ _ _) (by omega)
    have hg := grown_trans (grown_alloc hg1 _) hg2
    rcases (show j = 0 ∨ j = 1 ∨ j = 2 ∨ j = 3 from by omega) with rfl | rfl | rfl | rfl
    all_goals
      go_wp2
      go_returns
      exact ⟨_, rfl, by omega, by omega, hr2, hg⟩
  · have hk' : (k == 0) = false := by simp; omega
    go_wp2_with fail
    refine (pick_any _ rb (n + 1) 31 hr1 (by omega) (by omega) (by omega)).mono ?_
    rintro e w2 ⟨j, rfl, hj0, hj1, hr2, hg2⟩
    have hg := grown_trans hg1 hg2
    go_wp2
    go_returns
    exact ⟨_, rfl, by omega, by omega, hr2, hg⟩

/-- Payload was drawn. -/
def DrawnData (w : World) (B rb n : Nat) (e : Ending) (w' : World) : Prop := ∃ D, e = .returned (.string D) ∧ D.size ≤ 12 ∧ Rd w' B rb (n + 1) ∧ w.grownBy w' (some rb)
set_option maxRecDepth 100000 in
set_option maxHeartbeats 2000000 in
theorem of8_any {B : Nat} (w : World) (rb n g : Nat) (D0 D1 D2 D3 D4 D5 D6 D7 : ByteArray) (h : Rd w B rb n) (hn : n ≤ 1000000) (hg : g ≠ rb)
    (c0 : w.cell? ⟨g, 0, none⟩ = some (.string D0)) (c1 : w.cell? ⟨g, 1, none⟩ = some (.string D1)) (c2 : w.cell? ⟨g, 2, none⟩ = some (.string D2)) (c3 : w.cell? ⟨g, 3, none⟩ = some (.string D3)) (c4 : w.cell? ⟨g, 4, none⟩ = some (.string D4)) (c5 : w.cell? ⟨g, 5, none⟩ = some (.string D5)) (c6 : w.cell? ⟨g, 6, none⟩ = some (.string D6)) (c7 : w.cell? ⟨g, 7, none⟩ = some (.string D7))
    (z0 : D0.size ≤ 12) (z1 : D1.size ≤ 12) (z2 : D2.size ≤ 12) (z3 : D3.size ≤ 12) (z4 : D4.size ≤ 12) (z5 : D5.size ≤ 12) (z6 : D6.size ≤ 12) (z7 : D7.size ≤ 12) :
    Calls Try.prog 90 #[.pointer (some ⟨rb, 0, none⟩), .slice (some ⟨g, 0, none⟩) 8 8] w (DrawnData w B rb n) := by
  go_enter Try.func90, Try.ntmps90
  go_wp2_with fail
  refine (pick_any w rb n 8 h (by omega) (by omega) (by omega)).mono ?_
  rintro e w1 ⟨k, rfl, hk0, hk1, hr1, hg1⟩
  have c0 := far_cell hg1 c0 hg
  have c1 := far_cell hg1 c1 hg
  have c2 := far_cell hg1 c2 hg
  have c3 := far_cell hg1 c3 hg
  have c4 := far_cell hg1 c4 hg
  have c5 := far_cell hg1 c5 hg
  have c6 := far_cell hg1 c6 hg
  have c7 := far_cell hg1 c7 hg
  rcases (show k = 0 ∨ k = 1 ∨ k = 2 ∨ k = 3 ∨ k = 4 ∨ k = 5 ∨ k = 6 ∨ k = 7 from by omega) with rfl | rfl | rfl | rfl | rfl | rfl | rfl | rfl
  all_goals
    go_wp2
    go_returns
    exact ⟨_, rfl, by assumption, hr1, hg1⟩

set_option maxRecDepth 100000 in
set_option maxHeartbeats 1000000 in
theorem data_any {B : Nat} (w : World) (rb n : Nat) (h : Rd w B rb n) (hn : n ≤ 1000000) :
    Calls Try.prog 60 #[.pointer (some ⟨rb, 0, none⟩)] w (DrawnData w B rb n) := by
  have hlt := h.lt
  go_enter Try.func60, Try.ntmps60
  go_wp2_with fail
  refine (of8_any _ rb n w.heap.size _ _ _ _ _ _ _ _ (h.alloc _) (by omega) (by omega) (World.cell?_alloc_new _ _ _ _) (World.cell?_alloc_new _ _ _ _) (World.cell?_alloc_new _ _ _ _) (World.cell?_alloc_new _ _ _ _) (World.cell?_alloc_new _ _ _ _) (World.cell?_alloc_new _ _ _ _) (World.cell?_alloc_new _ _ _ _) (World.cell?_alloc_new _ _ _ _) (by decide) (by decide) (by decide) (by decide) (by decide) (by decide) (by decide) (by decide)).mono ?_
  rintro e w1 ⟨D, rfl, hD, hr, hg⟩
  have hg' := grown_trans (grown_alloc (grown_refl w (some rb)) _) hg
  go_wp2_with fail
  go_ret
  exact ⟨D, rfl, hD, hr, hg'⟩


end Go.Proofs.Ytmkmaeblnnfheaa
/- A new stream, by the reference. -/
namespace Go.Proofs.Ytmkmaeblnnfheaa
open Go.RowKit
attribute [local irreducible] Go.wpQuiet

set_option maxRecDepth 100000 in
set_option maxHeartbeats 400000 in
theorem sendnew_s (l : Int) (w : World) (h : 0 ≤ l ∧ l ≤ 30) :
    Calls Try.prog 94 #[.int .i64 l] w fun e w' => (∃ A B, e = .returned (.tuple #[.agg #[.string ⟨#[]⟩, .bool false, .int .i64 l, .int .i64 0, .slice A 0 0, .slice B 0 0], .bool true])) ∧ Below w.heap.size w w' := by
  have hc : decide (0 ≤ l ∧ l ≤ 30) = true := decide_eq_true h
  go_enter Try.func94, Try.ntmps94
  go_wp2_with (go_at_call 70; (with_reducible refine (l6In_v hc _).mono ?_); rintro e w9 ⟨rfl, rfl⟩)
  try simp only [Exit.inBlock, Exit.then]
  refine bodyPost_ret (results_sb rfl rfl rfl (((Own6.new w).alloc _).alloc _)) rfl ?_
  exact ⟨⟨_, _, rfl⟩, by go_grown⟩

end Go.Proofs.Ytmkmaeblnnfheaa
/- A part is acknowledged, by the reference. -/
namespace Go.Proofs.Ytmkmaeblnnfheaa
open Go.RowKit
attribute [local irreducible] Go.wpQuiet

theorem Below.of_mono {a b c : World} (h : Below a.heap.size a b) (k : Below b.heap.size b c) : Below a.heap.size a c := h.trans (k.mono h.size)
theorem last_v_s {o : Int} {d : ByteArray} {f : Bool} {ls : Int} (h : Pt.last ⟨o, d, f⟩ = ls) (w : World) (ho : -1000000 ≤ o ∧ o ≤ 1000000) (hd : d.size ≤ 1000000) :
    Calls Try.prog 84 #[.agg #[.int .i64 o, .string d, .bool f]] w fun e w' => e = .returned (.int .i64 ls) ∧ ∃ x, w' = w.alloc x := h ▸ last_s o d f w ho hd
theorem l2Add_v {L M : List Rg} {lo hi : Int} (hx : specAdd L lo hi = M) (A : Option Addr) (c : Nat) (w : World) (h : RngAt w A L.length L) (hn : L.length ≤ 100000) (hlo : -1000000 ≤ lo ∧ lo ≤ 1000000) (hhi : -1000000 ≤ hi ∧ hi ≤ 1000000)
    (hbd : ∀ r, r ∈ L → (-1000000 ≤ r.lo ∧ r.lo ≤ 1000000) ∧ -1000000 ≤ r.hi ∧ r.hi ≤ 1000000) :
    Calls Try.prog 83 #[.slice A L.length c, .int .i64 lo, .int .i64 hi] w (GotRng w M) := hx ▸ l2Add_any A L.length c L w lo hi h hn hlo hhi hbd

set_option linter.unusedVariables false in
set_option maxRecDepth 100000 in
set_option maxHeartbeats 4000000 in
theorem l32Ack_w (d : ByteArray) (f : Bool) (l n : Int) (LA LB : List Rg) (A : Option Addr) (ca : Nat) (B : Option Addr) (cb : Nat) (o : Int) (dp : ByteArray) (fp : Bool) (ls : Int) (w : World) (hA : RngAt w A LA.length LA) (hB : RngAt w B LB.length LB) (eA : A = none → ca = 0) (eB : B = none → cb = 0) (hn : LA.length ≤ 100000) (hn' : LB.length ≤ 100000) (HLS : Hid (Pt.last ⟨o, dp, fp⟩ = ls)) (ho : -1000 ≤ o ∧ o ≤ 1000) (hdp : dp.size ≤ 1000) (hls : -10000 ≤ ls ∧ ls ≤ 10000) (LA2 : List Rg) (HAD : Hid (specAdd LA o ls = LA2)) (HBD : Hid (∀ r, r ∈ LA → (-1000000 ≤ r.lo ∧ r.lo ≤ 1000000) ∧ -1000000 ≤ r.hi ∧ r.hi ≤ 1000000)) :
    Calls Try.prog 51 #[.agg #[.string d, .bool f, .int .i64 l, .int .i64 n, .slice A LA.length ca, .slice B LB.length cb], .agg #[.int .i64 o, .string dp, .bool fp]] w fun e w' => (∃ v, e = .returned v ∧ GotSd w ⟨d, f, l, n, LA2, remove LB o ls⟩ v w') ∧ Below w.heap.size w w' := by
  obtain ⟨ho0, ho1⟩ := ho
  obtain ⟨hls0, hls1⟩ := hls
  have z := ((Own6.new (d := d) (f := f) (l := l) (n := n) (A := A) (na := LA.length) (ca := ca) (B := B) (nb := LB.length) (cb := cb) w).alloc (.cells #[.int .i64 o, .string dp, .bool fp] 27)).alloc (.cells #[.string (⟨#[]⟩ : ByteArray), .bool false, .int .i64 0, .int .i64 0, .slice none 0 0, .slice none 0 0] 25)
  have q := (Own3.new (w.alloc (.cells #[.string d, .bool f, .int .i64 l, .int .i64 n, .slice A LA.length ca, .slice B LB.length cb] 25)) o dp fp).alloc (.cells #[.string (⟨#[]⟩ : ByteArray), .bool false, .int .i64 0, .int .i64 0, .slice none 0 0, .slice none 0 0] 25)
  have r := Own6.new (d := (⟨#[]⟩ : ByteArray)) (f := false) (l := 0) (n := 0) (A := none) (na := 0) (ca := 0) (B := none) (nb := 0) (cb := 0) ((w.alloc (.cells #[.string d, .bool f, .int .i64 l, .int .i64 n, .slice A LA.length ca, .slice B LB.length cb] 25)).alloc (.cells #[.int .i64 o, .string dp, .bool fp] 27))
  rw [show (w.alloc (.cells #[.string d, .bool f, .int .i64 l, .int .i64 n, .slice A LA.length ca, .slice B LB.length cb] 25)).heap.size = w.heap.size + 1 from by simp] at q
  rw [show ((w.alloc (.cells #[.string d, .bool f, .int .i64 l, .int .i64 n, .slice A LA.length ca, .slice B LB.length cb] 25)).alloc (.cells #[.int .i64 o, .string dp, .bool fp] 27)).heap.size = w.heap.size + 1 + 1 from by simp] at r
  have hW0 : Below w.heap.size w _ := (((Below.refl _ w).alloc (Nat.le_refl _) (.cells #[.string d, .bool f, .int .i64 l, .int .i64 n, .slice A LA.length ca, .slice B LB.length cb] 25)).alloc (by simp) (.cells #[.int .i64 o, .string dp, .bool fp] 27)).alloc (by simp; omega) (.cells #[.string (⟨#[]⟩ : ByteArray), .bool false, .int .i64 0, .int .i64 0, .slice none 0 0, .slice none 0 0] 25)
  have hsz : (((w.alloc (.cells #[.string d, .bool f, .int .i64 l, .int .i64 n, .slice A LA.length ca, .slice B LB.length cb] 25)).alloc (.cells #[.int .i64 o, .string dp, .bool fp] 27)).alloc (.cells #[.string (⟨#[]⟩ : ByteArray), .bool false, .int .i64 0, .int .i64 0, .slice none 0 0, .slice none 0 0] 25)).heap.size = w.heap.size + 1 + 1 + 1 := by simp
  go_enter Try.func51, Try.ntmps51
  have HZ0 := hid_of z
  have HQ0 := hid_of q
  have HR0 := hid_of r
  have hw0 := hW0
  have hs0 := Nat.le_of_eq hsz.symm
  obtain ⟨⟨z0, z1, z2, z3, z4, z5⟩, zf⟩ := HZ0.out
  clear z q r
  go_wp2_with (first
    | (go_at_call 62; (with_reducible refine (copy_s d f l n LA LB A ca B cb _ (hA.below hw0) (hB.below hw0) eA eB (by omega) (by omega)).mono ?_); rintro e w1 ⟨⟨_, rfl, A1, c1, B1, c2', rfl, hI1, hJ1, hap⟩, hb1⟩; have HZ1 := hid_of (HZ0.out.under hb1 (by omega)); have HQ1 := hid_of (HQ0.out.under hb1 (by omega)); have HR1 := hid_of (HR0.out.under hb1 (by omega)); have hw1 := hw0.trans (hb1.mono hw0.size); have hs1 : w.heap.size + 1 + 1 + 1 ≤ w1.heap.size := (by have := hb1.size; omega); clear z0 z1 z2 z3 z4 z5 zf hb1))
  generalize hW8 : World.alloc w1 _ = W8
  have hz8 : Own6 W8 w.heap.size d f l n A LA.length ca B LB.length cb := by rw [← hW8]; exact HZ1.out.alloc _
  have hq8 : Own3 W8 (w.heap.size + 1) o dp fp := by rw [← hW8]; exact HQ1.out.alloc _
  have hr8 : Own6 W8 (w.heap.size + 1 + 1) (⟨#[]⟩ : ByteArray) false 0 0 none 0 0 none 0 0 := by rw [← hW8]; exact HR1.out.alloc _
  have ho8 : Own6 W8 w1.heap.size d f l n A1 LA.length c1 B1 LB.length c2' := by rw [← hW8]; exact Own6.new w1
  have hw8 : Below w.heap.size w W8 := by rw [← hW8]; exact ba hw1 _
  have hs8 : W8.heap.size = w1.heap.size + 1 := by rw [← hW8]; simp
  clear hW8 hI1 hJ1 hap
  have HZ8 := hid_of hz8
  have HQ8 := hid_of hq8
  have HR8 := hid_of hr8
  have HO8 := hid_of ho8
  clear hz8 hq8 hr8 ho8
  obtain ⟨⟨z0, z1, z2, z3, z4, z5⟩, zf⟩ := HZ8.out
  obtain ⟨⟨q0, q1, q2⟩, qf⟩ := HQ8.out
  obtain ⟨⟨o0, o1, o2, o3, o4, o5⟩, of⟩ := HO8.out
  have ne1 : ¬ (w1.heap.size = w.heap.size) := by omega
  have ne2 : ¬ (w.heap.size = w1.heap.size) := by omega
  have ne3 : ¬ (w1.heap.size = w.heap.size + 1) := by omega
  have ne4 : ¬ (w.heap.size + 1 = w1.heap.size) := by omega
  go_region_held3 (fun w' => w'.cell? ⟨w.heap.size, 4, none⟩ = some (.slice A LA.length ca) ∧ w'.cell? ⟨w.heap.size + 1, 0, none⟩ = some (.int .i64 o) ∧ w'.cell? ⟨w.heap.size + 1, 1, none⟩ = some (.string dp) ∧ w'.cell? ⟨w.heap.size + 1, 2, none⟩ = some (.bool fp)) (go_keep) ((first
    | (go_at_call 84; (with_reducible refine (last_v_s HLS.out _ ⟨by omega, by omega⟩ (by omega)).mono ?_); rintro e' w5 ⟨rfl, hxw5⟩; have hbw5 : Below W8.heap.size W8 w5 := (by obtain ⟨y, rfl⟩ := hxw5; go_grown); have hsw5 := hbw5.size; have HZw5 := hid_of (HZ8.out.under hbw5 (by omega)); have HQw5 := hid_of (HQ8.out.under hbw5 (by omega)); have HRw5 := hid_of (HR8.out.under hbw5 (by omega)); have HOw5 := hid_of (HO8.out.under hbw5 (by omega)); have hww5 := hw8.trans (hbw5.mono hw8.size); clear z0 z1 z2 z3 z4 z5 zf q0 q1 q2 qf o0 o1 o2 o3 o4 o5 of; clear hxw5; obtain ⟨⟨z0, z1, z2, z3, z4, z5⟩, zf⟩ := HZw5.out; obtain ⟨⟨q0, q1, q2⟩, qf⟩ := HQw5.out; obtain ⟨⟨o0, o1, o2, o3, o4, o5⟩, of⟩ := HOw5.out)
    | (go_at_call 83; (with_reducible refine (l2Add_v HAD.out A ca _ (hA.below hww5) (by omega) ⟨by omega, by omega⟩ ⟨by omega, by omega⟩ HBD.out).mono ?_); rintro e' w6 ⟨A2, c2, rfl, hIw6, hbw6⟩; have hsw6 := hbw6.size; have HZw6 := hid_of (HZw5.out.under hbw6 (by omega)); have HQw6 := hid_of (HQw5.out.under hbw6 (by omega)); have HRw6 := hid_of (HRw5.out.under hbw6 (by omega)); have HOw6 := hid_of (HOw5.out.under hbw6 (by omega)); have hww6 := hww5.trans (hbw6.mono hww5.size); clear z0 z1 z2 z3 z4 z5 zf q0 q1 q2 qf o0 o1 o2 o3 o4 o5 of; obtain ⟨⟨z0, z1, z2, z3, z4, z5⟩, zf⟩ := HZw6.out; obtain ⟨⟨q0, q1, q2⟩, qf⟩ := HQw6.out; obtain ⟨⟨o0, o1, o2, o3, o4, o5⟩, of⟩ := HOw6.out)))
  all_goals
    generalize hW10 : World.setCell w6 _ _ = W10
    have hz10 : Own6 W10 w.heap.size d f l n A LA.length ca B LB.length cb := by rw [← hW10]; exact HZw6.out.other (by dsimp only; omega) _
    have hq10 : Own3 W10 (w.heap.size + 1) o dp fp := by rw [← hW10]; exact HQw6.out.other (by dsimp only; omega) _
    have hr10 : Own6 W10 (w.heap.size + 1 + 1) (⟨#[]⟩ : ByteArray) false 0 0 none 0 0 none 0 0 := by rw [← hW10]; exact HRw6.out.other (by dsimp only; omega) _
    have ho10 : Own6 W10 w1.heap.size d f l n A2 LA2.length c2 B1 LB.length c2' := by rw [← hW10]; exact HOw6.out.set4 _ _ _
    have hw10 : Below w.heap.size w W10 := by rw [← hW10]; exact hww6.setCell (by dsimp only; omega) _
    have hs10 : W10.heap.size = w6.heap.size := by rw [← hW10]; simp [World.setCell]
    have hI10 : RngIn W10 (w1.heap.size + 1) w6.heap.size A2 LA2.length c2 LA2 := by rw [← hW10]; exact (hIw6.mono (by omega) (Nat.le_refl _)).setLow (by dsimp only; omega) _
    clear hW10 hIw6 hbw5 hbw6 HZ8 HQ8 HR8 HO8 HZw5 HQw5 HRw5 HOw5 HZw6 HQw6 HRw6 HOw6 hww5 z0 z1 z2 z3 z4 z5 zf q0 q1 q2 qf o0 o1 o2 o3 o4 o5 of
    have HZ10 := hid_of hz10
    have HQ10 := hid_of hq10
    have HR10 := hid_of hr10
    have HO10 := hid_of ho10
    clear hz10 hq10 hr10 ho10
    obtain ⟨⟨z0, z1, z2, z3, z4, z5⟩, zf⟩ := HZ10.out
    obtain ⟨⟨q0, q1, q2⟩, qf⟩ := HQ10.out
    obtain ⟨⟨o0, o1, o2, o3, o4, o5⟩, of⟩ := HO10.out
  all_goals go_wp2_with fail
  all_goals
    go_region_held3 (fun w' => w'.cell? ⟨w.heap.size, 5, none⟩ = some (.slice B LB.length cb) ∧ w'.cell? ⟨w.heap.size + 1, 0, none⟩ = some (.int .i64 o) ∧ w'.cell? ⟨w.heap.size + 1, 1, none⟩ = some (.string dp) ∧ w'.cell? ⟨w.heap.size + 1, 2, none⟩ = some (.bool fp)) (go_keep) ((first
      | (go_at_call 84; (with_reducible refine (last_v_s HLS.out _ ⟨by omega, by omega⟩ (by omega)).mono ?_); rintro e' w7 ⟨rfl, hxw7⟩; have hbw7 : Below W10.heap.size W10 w7 := (by obtain ⟨y, rfl⟩ := hxw7; go_grown); have hsw7 := hbw7.size; have HZw7 := hid_of (HZ10.out.under hbw7 (by omega)); have HQw7 := hid_of (HQ10.out.under hbw7 (by omega)); have HRw7 := hid_of (HR10.out.under hbw7 (by omega)); have HOw7 := hid_of (HO10.out.under hbw7 (by omega)); have hww7 := hw10.trans (hbw7.mono hw10.size); clear z0 z1 z2 z3 z4 z5 zf q0 q1 q2 qf o0 o1 o2 o3 o4 o5 of; clear hxw7; obtain ⟨⟨z0, z1, z2, z3, z4, z5⟩, zf⟩ := HZw7.out; obtain ⟨⟨q0, q1, q2⟩, qf⟩ := HQw7.out; obtain ⟨⟨o0, o1, o2, o3, o4, o5⟩, of⟩ := HOw7.out)
      | (go_at_call 85; (with_reducible refine (l2Remove_any B LB.length cb LB _ o ls (hB.below hww7) (by omega) ⟨by omega, by omega⟩ ⟨by omega, by omega⟩).mono ?_); rintro e' w9 ⟨B2, c4, rfl, hIw9, hbw9⟩; have hsw9 := hbw9.size; have HZw9 := hid_of (HZw7.out.under hbw9 (by omega)); have HQw9 := hid_of (HQw7.out.under hbw9 (by omega)); have HRw9 := hid_of (HRw7.out.under hbw9 (by omega)); have HOw9 := hid_of (HOw7.out.under hbw9 (by omega)); have hww9 := hww7.trans (hbw9.mono hww7.size); have hIA := hI10.below (Below.of_mono hbw7 hbw9); clear z0 z1 z2 z3 z4 z5 zf q0 q1 q2 qf o0 o1 o2 o3 o4 o5 of; obtain ⟨⟨z0, z1, z2, z3, z4, z5⟩, zf⟩ := HZw9.out; obtain ⟨⟨q0, q1, q2⟩, qf⟩ := HQw9.out; obtain ⟨⟨o0, o1, o2, o3, o4, o5⟩, of⟩ := HOw9.out)))
  all_goals
    generalize hW12 : World.setCell w9 _ _ = W12
    have hr12 : Own6 W12 (w.heap.size + 1 + 1) (⟨#[]⟩ : ByteArray) false 0 0 none 0 0 none 0 0 := by rw [← hW12]; exact HRw9.out.other (by dsimp only; omega) _
    have ho12 : Own6 W12 w1.heap.size d f l n A2 LA2.length c2 B2 (remove LB o ls).length c4 := by rw [← hW12]; exact HOw9.out.set5 _ _ _
    have hw12 : Below w.heap.size w W12 := by rw [← hW12]; exact hww9.setCell (by dsimp only; omega) _
    have hs12 : W12.heap.size = w9.heap.size := by rw [← hW12]; simp [World.setCell]
    have hI12 : RngIn W12 (w1.heap.size + 1) w6.heap.size A2 LA2.length c2 LA2 := by rw [← hW12]; exact hIA.setLow (by dsimp only; omega) _
    have hJ12 : RngIn W12 w6.heap.size w9.heap.size B2 (remove LB o ls).length c4 (remove LB o ls) := by rw [← hW12]; exact (hIw9.mono (by omega) (Nat.le_refl _)).setLow (by dsimp only; omega) _
    clear hW12 hIw9 hIA hI10 hbw7 hbw9 HZ10 HQ10 HR10 HO10 HZw7 HQw7 HRw7 HOw7 HZw9 HQw9 HRw9 HOw9 hww7 z0 z1 z2 z3 z4 z5 zf q0 q1 q2 qf o0 o1 o2 o3 o4 o5 of ne1 ne2 ne3 ne4
    have HR12 := hid_of hr12
    obtain ⟨⟨r0, r1, r2, r3, r4, r5⟩, rf⟩ := hr12
    obtain ⟨⟨o0, o1, o2, o3, o4, o5⟩, of⟩ := ho12
  all_goals go_wp2_with fail
  all_goals
    try simp only [Exit.inBlock, Exit.then]
    refine bodyPost_ret (results_snd rfl rfl (HR12.out.setAll d f l n A2 LA2.length c2 B2 (remove LB o ls).length c4).1) rfl ?_
    refine ⟨⟨_, rfl, A2, c2, B2, c4, rfl, ?_, ?_, ?_⟩, ?_⟩
    · refine RngIn.mono (B := w1.heap.size + 1) (S := w6.heap.size) ?_ (by omega) (by simp [World.setCell]; omega)
      repeat refine RngIn.setLow ?_ (by dsimp only; omega) _
      exact hI12
    · refine RngIn.mono (B := w6.heap.size) (S := w9.heap.size) ?_ (by omega) (by simp [World.setCell]; omega)
      repeat refine RngIn.setLow ?_ (by dsimp only; omega) _
      exact hJ12
    · exact apart_of hI12 hJ12 (.inl (Nat.le_refl _))
    · repeat refine Below.setCell ?_ (by dsimp only; omega) _
      exact hw12
end Go.Proofs.Ytmkmaeblnnfheaa
/- What the loop that loses positions carries. -/
namespace Go.Proofs.Ytmkmaeblnnfheaa
open Go.RowKit
attribute [local irreducible] Go.wpQuiet

/-- A set of positions from 0 on. -/
def LInv (M : List Rg) : Prop := Canon M ∧ ∀ i, memB M i = true → 0 ≤ i ∧ i ≤ 999
theorem LInv.add {M : List Rg} (h : LInv M) {j : Int} (h0 : 0 ≤ j) (h1 : j ≤ 999) : LInv (add M j j) :=
  ⟨canon_add h.1 (Int.le_refl _), fun i hi => by
    rw [mem_add h.1 (Int.le_refl _)] at hi
    rcases Bool.or_eq_true _ _ ▸ hi with e | e
    · have := of_decide_eq_true e; omega
    · exact h.2 i e⟩
theorem LInv.bd {M : List Rg} (h : LInv M) : ∀ r, r ∈ M → (0 ≤ r.lo ∧ r.lo ≤ 999) ∧ 0 ≤ r.hi ∧ r.hi ≤ 999 := fun _ hr => ⟨h.2 _ (mem_lo h.1 hr), h.2 _ (mem_hi h.1 hr)⟩
theorem LInv.canon {M : List Rg} (h : LInv M) : Canon M := h.1
theorem LInv.len {M : List Rg} (h : LInv M) : M.length ≤ 600 := by
  rcases M with _ | ⟨r0, M⟩
  · simp
  · have := canon_few (r0 :: M) 0 1000 h.1 (fun _ hr => by have := h.bd _ hr; omega) (by simp)
    omega
theorem LInv.wide {M : List Rg} (h : LInv M) : ∀ r, r ∈ M → (-1000000 ≤ r.lo ∧ r.lo ≤ 1000000) ∧ -1000000 ≤ r.hi ∧ r.hi ≤ 1000000 := fun _ hr => by have := h.bd _ hr; omega
theorem LInv.of {M : List Rg} (h : RV M) : LInv M := ⟨h.2.1, fun _ hi => mem_range h.2.2 hi⟩
theorem lose_step {A M : List Rg} {j ls : Int} (h : j ≤ ls) : lose A (ls + 1 - j).toNat j M = lose A (ls + 1 - (j + 1)).toNat (j + 1) (if memB A j = true then M else add M j j) := by
  rw [show (ls + 1 - j).toNat = (ls + 1 - (j + 1)).toNat + 1 from by omega]
  rfl
theorem lose_end {A M : List Rg} {ls : Int} : lose A (ls + 1 - (ls + 1)).toNat (ls + 1) M = M := by
  rw [show (ls + 1 - (ls + 1)).toNat = 0 from by omega]
  rfl

structure LS (w wr : World) (xo : Nat) (d : ByteArray) (f : Bool) (l n : Int) (LA LB : List Rg) (A : Option Addr) (ca : Nat) (B : Option Addr) (cb : Nat) (o : Int) (dp : ByteArray) (fp : Bool) (A1 : Option Addr) (c1 : Nat) (M : List Rg) (Bk : Option Addr) (ck : Nat) : Prop where
  z : Own6 wr w.heap.size d f l n A LA.length ca B LB.length cb
  q : Own3 wr (w.heap.size + 1) o dp fp
  r : Own6 wr (w.heap.size + 1 + 1) (⟨#[]⟩ : ByteArray) false 0 0 none 0 0 none 0 0
  o : Own6 wr xo d f l n A1 LA.length c1 Bk M.length ck
  a : RngIn wr (w.heap.size + 1 + 1 + 1) xo A1 LA.length c1 LA
  b : RngIn wr (w.heap.size + 1 + 1 + 1) wr.heap.size Bk M.length ck M
  ap : Apart A1 c1 Bk ck
  bw : Below w.heap.size w wr
  x : w.heap.size + 1 + 1 + 1 ≤ xo
  lt : xo < wr.heap.size
section
variable {w wr w' : World} {xo : Nat} {d : ByteArray} {f : Bool} {l n : Int} {LA LB : List Rg} {A : Option Addr} {ca : Nat} {B : Option Addr} {cb : Nat} {o : Int} {dp : ByteArray} {fp : Bool} {A1 : Option Addr} {c1 : Nat} {M : List Rg} {Bk : Option Addr} {ck : Nat}
theorem LS.below (h : LS w wr xo d f l n LA LB A ca B cb o dp fp A1 c1 M Bk ck) (hb : Below wr.heap.size wr w') : LS w w' xo d f l n LA LB A ca B cb o dp fp A1 c1 M Bk ck :=
  have h1 := h.x
  have h2 := h.lt
  ⟨h.z.under hb (by omega), h.q.under hb (by omega), h.r.under hb (by omega), h.o.under hb h2, h.a.below hb, (h.b.below hb).mono (Nat.le_refl _) hb.size, h.ap, h.bw.trans (hb.mono h.bw.size), h.x, Nat.lt_of_lt_of_le h2 hb.size⟩
/-- The lost positions are replaced. -/
theorem LS.put (h : LS w wr xo d f l n LA LB A ca B cb o dp fp A1 c1 M Bk ck) {s : Nat} (hs : xo < s) {N : List Rg} {B2 : Option Addr} {c2 : Nat} (hb : RngIn wr s wr.heap.size B2 N.length c2 N) :
    LS w (wr.setCell ⟨xo, 5, none⟩ (.slice B2 N.length c2)) xo d f l n LA LB A ca B cb o dp fp A1 c1 N B2 c2 :=
  have h1 := h.x
  have h2 := h.lt
  ⟨h.z.other (by dsimp only; omega) _, h.q.other (by dsimp only; omega) _, h.r.other (by dsimp only; omega) _, h.o.set5 _ _ _, h.a.touch (((Touch.refl wr xo (xo + 1)).setCell (Nat.le_refl _) (Nat.lt_succ_self _) _)) (.inl (Nat.le_refl _)),
    ((hb.setLow (by dsimp only; omega) _).mono (by omega) (by simp [World.setCell])), apart_of h.a hb (.inl (by omega)), h.bw.setCell (by dsimp only; omega) _, h.x, by simpa [World.setCell] using h2⟩
end

end Go.Proofs.Ytmkmaeblnnfheaa
/- A part is lost, by the reference. -/
namespace Go.Proofs.Ytmkmaeblnnfheaa
open Go.RowKit
attribute [local irreducible] Go.wpQuiet

set_option linter.unusedVariables false in
set_option maxRecDepth 100000 in
set_option maxHeartbeats 4000000 in
theorem l32Loss_w (d : ByteArray) (f : Bool) (l n : Int) (LA LB : List Rg) (A : Option Addr) (ca : Nat) (B : Option Addr) (cb : Nat) (o : Int) (dp : ByteArray) (fp : Bool) (ls : Int) (w : World) (hA : RngAt w A LA.length LA) (hB : RngAt w B LB.length LB) (eA : A = none → ca = 0) (eB : B = none → cb = 0) (hn : LA.length ≤ 100000) (hn' : LB.length ≤ 100000) (HLS : Hid (Pt.last ⟨o, dp, fp⟩ = ls)) (ho : 0 ≤ o ∧ o ≤ ls + 1) (hdp : dp.size ≤ 1000) (hls : -1 ≤ ls ∧ ls ≤ 999) (HI0 : Hid (LInv LB)) :
    Calls Try.prog 57 #[.agg #[.string d, .bool f, .int .i64 l, .int .i64 n, .slice A LA.length ca, .slice B LB.length cb], .agg #[.int .i64 o, .string dp, .bool fp]] w fun e w' => (∃ v, e = .returned v ∧ GotSd w ⟨d, f, l, n, LA, lose LA (ls + 1 - o).toNat o LB⟩ v w') ∧ Below w.heap.size w w' := by
  obtain ⟨ho0, ho1⟩ := ho
  obtain ⟨hls0, hls1⟩ := hls
  obtain ⟨T, hT⟩ : ∃ T, lose LA (ls + 1 - o).toNat o LB = T := ⟨_, rfl⟩
  have HT := hid_of hT
  rw [hT]
  clear hT
  have z := ((Own6.new (d := d) (f := f) (l := l) (n := n) (A := A) (na := LA.length) (ca := ca) (B := B) (nb := LB.length) (cb := cb) w).alloc (.cells #[.int .i64 o, .string dp, .bool fp] 27)).alloc (.cells #[.string (⟨#[]⟩ : ByteArray), .bool false, .int .i64 0, .int .i64 0, .slice none 0 0, .slice none 0 0] 25)
  have q := (Own3.new (w.alloc (.cells #[.string d, .bool f, .int .i64 l, .int .i64 n, .slice A LA.length ca, .slice B LB.length cb] 25)) o dp fp).alloc (.cells #[.string (⟨#[]⟩ : ByteArray), .bool false, .int .i64 0, .int .i64 0, .slice none 0 0, .slice none 0 0] 25)
  have r := Own6.new (d := (⟨#[]⟩ : ByteArray)) (f := false) (l := 0) (n := 0) (A := none) (na := 0) (ca := 0) (B := none) (nb := 0) (cb := 0) ((w.alloc (.cells #[.string d, .bool f, .int .i64 l, .int .i64 n, .slice A LA.length ca, .slice B LB.length cb] 25)).alloc (.cells #[.int .i64 o, .string dp, .bool fp] 27))
  rw [show (w.alloc (.cells #[.string d, .bool f, .int .i64 l, .int .i64 n, .slice A LA.length ca, .slice B LB.length cb] 25)).heap.size = w.heap.size + 1 from by simp] at q
  rw [show ((w.alloc (.cells #[.string d, .bool f, .int .i64 l, .int .i64 n, .slice A LA.length ca, .slice B LB.length cb] 25)).alloc (.cells #[.int .i64 o, .string dp, .bool fp] 27)).heap.size = w.heap.size + 1 + 1 from by simp] at r
  have hW0 : Below w.heap.size w _ := (((Below.refl _ w).alloc (Nat.le_refl _) (.cells #[.string d, .bool f, .int .i64 l, .int .i64 n, .slice A LA.length ca, .slice B LB.length cb] 25)).alloc (by simp) (.cells #[.int .i64 o, .string dp, .bool fp] 27)).alloc (by simp; omega) (.cells #[.string (⟨#[]⟩ : ByteArray), .bool false, .int .i64 0, .int .i64 0, .slice none 0 0, .slice none 0 0] 25)
  have hsz : (((w.alloc (.cells #[.string d, .bool f, .int .i64 l, .int .i64 n, .slice A LA.length ca, .slice B LB.length cb] 25)).alloc (.cells #[.int .i64 o, .string dp, .bool fp] 27)).alloc (.cells #[.string (⟨#[]⟩ : ByteArray), .bool false, .int .i64 0, .int .i64 0, .slice none 0 0, .slice none 0 0] 25)).heap.size = w.heap.size + 1 + 1 + 1 := by simp
  go_enter Try.func57, Try.ntmps57
  have HZ0 := hid_of z
  have HQ0 := hid_of q
  have HR0 := hid_of r
  have hw0 := hW0
  have hs0 := Nat.le_of_eq hsz.symm
  obtain ⟨⟨z0, z1, z2, z3, z4, z5⟩, zf⟩ := HZ0.out
  clear z q r
  go_wp2_with (first
    | (go_at_call 62; (with_reducible refine (copy_s d f l n LA LB A ca B cb _ (hA.below hw0) (hB.below hw0) eA eB (by omega) (by omega)).mono ?_); rintro e w1 ⟨⟨_, rfl, A1, c1, B1, c2, rfl, hI1, hJ1, hap⟩, hb1⟩; have HZ1 := hid_of (HZ0.out.under hb1 (by omega)); have HQ1 := hid_of (HQ0.out.under hb1 (by omega)); have HR1 := hid_of (HR0.out.under hb1 (by omega)); have hw1 := hw0.trans (hb1.mono hw0.size); have hs1 : w.heap.size + 1 + 1 + 1 ≤ w1.heap.size := (by have := hb1.size; omega); have hI1 : RngIn w1 (w.heap.size + 1 + 1 + 1) w1.heap.size A1 LA.length c1 LA := hI1.mono (by omega) (Nat.le_refl _); have hJ1 : RngIn w1 (w.heap.size + 1 + 1 + 1) w1.heap.size B1 LB.length c2 LB := hJ1.mono (by omega) (Nat.le_refl _); have q0 := (HQ1.out.alloc (.cells #[.string d, .bool f, .int .i64 l, .int .i64 n, .slice A1 LA.length c1, .slice B1 LB.length c2] 25)).1.1; clear z0 z1 z2 z3 z4 z5 zf hb1))
  have HS : Hid (LS w _ w1.heap.size d f l n LA LB A ca B cb o dp fp A1 c1 LB B1 c2) := ⟨HZ1.out.alloc _, HQ1.out.alloc _, HR1.out.alloc _, Own6.new w1, hI1.alloc _, (hJ1.alloc _).mono (Nat.le_refl _) (by simp), hap, ba hw1 _, hs1, by simp⟩
  clear hI1 hJ1 hap HZ0 HQ0 HR0 HZ1 HQ1 HR1
  clear q0
  go_loopw [6] (fun i wr => ∃ (j : Int) (M : List Rg) (Bk : Option Addr) (ck : Nat), i = .int .i64 j ∧ o ≤ j ∧ j ≤ ls + 1 ∧ Hid (lose LA (ls + 1 - j).toNat j M = T) ∧ Hid (LInv M) ∧ Hid (LS w wr w1.heap.size d f l n LA LB A ca B cb o dp fp A1 c1 M Bk ck)) (fun i _ => (ls + 1 - intOf i).toNat)
  case atStart => exact ⟨o, LB, B1, c2, rfl, Int.le_refl _, by omega, HT, HI0, HS⟩
  case round =>
    obtain ⟨j, M, Bk, ck, rfl, hj0, hj1, HM, HI, HS⟩ := hrel
    clear HT
    obtain ⟨⟨q0, q1, q2⟩, qf⟩ := HS.out.q
    have hw := HS.out.bw
    have hx1 := HS.out.x
    have hx2 := HS.out.lt
    by_cases hlt : j ≤ ls
    · have HM : Hid (lose LA (ls + 1 - (j + 1)).toNat (j + 1) (if memB LA j = true then M else add M j j) = T) := (lose_step hlt).symm.trans HM.out
      obtain ⟨b, hb⟩ : ∃ b, memB LA j = b := ⟨_, rfl⟩
      rw [hb] at HM
      have HBB := hid_of hb
      clear hb
      cases b with
      | true =>
        go_wp2_with (first
          | (go_at_call 84; (with_reducible refine (last_v_s HLS.out _ ⟨by omega, by omega⟩ (by omega)).mono ?_); rintro e w5 ⟨rfl, hx5⟩; have hb5 : Below wr.heap.size wr w5 := (by obtain ⟨y, rfl⟩ := hx5; go_grown); have S1 := HS.out.below hb5; have S1 := hid_of S1; obtain ⟨⟨z0, z1, z2, z3, z4, z5⟩, zf⟩ := S1.out.z; clear q0 q1 q2 qf z0 z1 z2 z3 z5 zf hx5)
          | (go_at_call 88; (with_reducible refine (l2Has_v HBB.out _ (hA.below S1.out.bw) (by omega)).mono ?_); rintro e w6 ⟨rfl, hb6⟩; have S2 := S1.out.below hb6))
        go_roundw
        case rel => exact ⟨j + 1, M, Bk, ck, by go_num, by omega, by omega, HM, HI, S2⟩
        case measure => simp [intOf]; omega
      | false =>
        go_wp2_with (first
          | (go_at_call 84; (with_reducible refine (last_v_s HLS.out _ ⟨by omega, by omega⟩ (by omega)).mono ?_); rintro e w5 ⟨rfl, hx5⟩; have hb5 : Below wr.heap.size wr w5 := (by obtain ⟨y, rfl⟩ := hx5; go_grown); have S1 := HS.out.below hb5; have S1 := hid_of S1; obtain ⟨⟨z0, z1, z2, z3, z4, z5⟩, zf⟩ := S1.out.z; clear q0 q1 q2 qf z0 z1 z2 z3 z5 zf hx5)
          | (go_at_call 88; (with_reducible refine (l2Has_v HBB.out _ (hA.below S1.out.bw) (by omega)).mono ?_); rintro e w6 ⟨rfl, hb6⟩; have S2 := S1.out.below hb6; obtain ⟨⟨o0, o1, o2, o3, o4, o5⟩, of⟩ := S2.o; clear z4 o0 o1 o2 o3 o4)
          | (go_at_call 83; (with_reducible refine (l2Add_v (spec_add HI.out.canon (Int.le_refl _)) Bk ck _ S2.b.reads (by have := HI.out.len; omega) ⟨by omega, by omega⟩ ⟨by omega, by omega⟩ HI.out.wide).mono ?_); rintro e w7 ⟨B2, c3, rfl, hI7, hb7⟩; have S3 := S2.below hb7; have hs6 : w1.heap.size < w6.heap.size := S2.lt; obtain ⟨⟨o0, o1, o2, o3, o4, o5⟩, of⟩ := S3.o; clear o0 o1 o2 o3 o4))
        go_roundw
        case rel => exact ⟨j + 1, add M j j, B2, c3, by go_num, by omega, by omega, HM, HI.out.add (by omega) (by omega), S3.put hs6 hI7⟩
        case measure => simp [intOf]; omega
    · obtain rfl : j = ls + 1 := by omega
      have HM : Hid (M = T) := lose_end.symm.trans HM.out
      go_wp2_with (first
          | (go_at_call 84; (with_reducible refine (last_v_s HLS.out _ ⟨by omega, by omega⟩ (by omega)).mono ?_); rintro e w5 ⟨rfl, hx5⟩; have hb5 : Below wr.heap.size wr w5 := (by obtain ⟨y, rfl⟩ := hx5; go_grown); have S1 := HS.out.below hb5; have S1 := hid_of S1; obtain ⟨⟨r0, r1, r2, r3, r4, r5⟩, rf⟩ := S1.out.r; obtain ⟨⟨o0, o1, o2, o3, o4, o5⟩, of⟩ := S1.out.o; clear q0 q1 q2 qf hx5))
      try simp only [Exit.inBlock, Exit.then]
      refine bodyPost_ret (results_snd rfl rfl (S1.out.r.setAll d f l n A1 LA.length c1 Bk M.length ck).1) rfl ?_
      rw [← HM.out]
      have ha := S1.out.a
      have hb := S1.out.b
      refine ⟨⟨_, rfl, A1, c1, Bk, ck, rfl, ?_, ?_, S1.out.ap⟩, ?_⟩
      · refine RngIn.mono (B := w.heap.size + 1 + 1 + 1) (S := w1.heap.size) ?_ (by omega) (by have := S1.out.lt; simp [World.setCell]; omega)
        repeat refine RngIn.setLow ?_ (by dsimp only; omega) _
        exact ha
      · refine RngIn.mono (B := w.heap.size + 1 + 1 + 1) (S := w5.heap.size) ?_ (by omega) (by simp [World.setCell])
        repeat refine RngIn.setLow ?_ (by dsimp only; omega) _
        exact hb
      · repeat refine Below.setCell ?_ (by dsimp only; omega) _
        exact S1.out.bw
end Go.Proofs.Ytmkmaeblnnfheaa
/- A region that draws its order and some of whose allocations wait for nothing: they may come at any time. The walk passes them over; behind what stands ahead of them all they lie in blocks of their own, wherever. -/
namespace Go.Proofs.Ytmkmaeblnnfheaa
open Go.RowKit

/-- An allocation that waits for nothing: its place, its slot, the new block, what is known of that block. -/
structure Flt where
  idx : Nat
  dst : Tmp
  obj : Obj
  ok : World → Nat → Prop
def flAct (a : Act) : List (Flt × Nat) → Act
  | [] => a
  | (m, b) :: D => (flAct a D).put (some m.dst) (.pointer (some ⟨b, 0, none⟩))
def flList (listed : Array Bool) : List (Flt × Nat) → Array Bool
  | [] => listed
  | (m, _) :: D => (flList listed D).setIfInBounds m.idx true
/-- A world of the class in which the new blocks stand, each its own, none among the blocks that a call has made (G). -/
def flCls (C : World → Prop) (base : Nat) (G : List (Nat × Nat)) (D : List (Flt × Nat)) (w : World) : Prop :=
  C w ∧ (D.map (·.2)).Nodup ∧ ∀ p, p ∈ D → base ≤ p.2 ∧ p.2 < w.heap.size ∧ p.1.ok w p.2 ∧ ∀ g, g ∈ G → p.2 < g.1 ∨ g.2 ≤ p.2
/-- New blocks lead to no other class, and the class lies above what was made. -/
def Grows (base : Nat) (G : List (Nat × Nat)) (C : World → Prop) : Prop := ∀ w, C w → base ≤ w.heap.size ∧ (∀ g, g ∈ G → g.2 ≤ w.heap.size) ∧ ∀ o, C (w.alloc o)
theorem grows_below (W : World) : Grows W.heap.size [] (Below W.heap.size W) := fun _ h => ⟨h.size, fun _ hg => (by cases hg), fun o => h.alloc h.size o⟩

section
variable {P : Program} {l : List Oper} {md : Region.Mode} {base : Nat} {fl : List Flt}

/-- The blocks from the base on stand as they stood. -/
def Keeps (base : Nat) (w w' : World) : Prop := w.heap.size ≤ w'.heap.size ∧ ∀ k, base ≤ k → k < w.heap.size → w'.heap[k]? = w.heap[k]?
theorem Keeps.of_below {base : Nat} {w w' : World} (h : Below w.heap.size w w') : Keeps base w w' := ⟨h.size, fun k _ hk => h.block k hk⟩
theorem Keeps.of_grown {base rb : Nat} {w w' : World} (h : w.grownBy w' (some rb)) (hr : rb < base) : Keeps base w w' := ⟨h.size, fun k h1 hk => h.block k hk (by intro e; injection e with e; omega)⟩
def TurnsB (P : Program) (base : Nat) (o : Oper) (a : Act) (B C : World → Prop) (K : Nat × Nat → (World → Prop) → (World → Prop) → Act → Prop) : Prop :=
  ∀ w, C w → o.wp P a w (fun a' w' => Keeps base w w' ∧ ∃ B' C' : World → Prop, C' w' ∧ (∀ x, C' x → B' x) ∧ (∀ x, B' x → B x) ∧ K (w.heap.size, w'.heap.size) B' C' a') NoExit

/-- The walk, step by step. -/
def WalkF (P : Program) (l : List Oper) (base : Nat) (E : List (Nat × Nat) → (World → Prop) → (World → Prop) → Act → Prop) : List (Bool × Nat) → List (Nat × Nat) → (World → Prop) → (World → Prop) → Act → Prop
  | [], G, B, C, a => E G B C a
  | (false, i) :: r, G, B, C, a => ∃ o v, l[i]? = some o ∧ LeavesV P l.toArray B o v a ∧ WalkF P l base E r G B C (a.put o.dst v)
  | (true, c) :: r, G, B, C, a => ∃ o, l[c]? = some o ∧ o.guard = none ∧ TurnsB P base o a B C (fun g B' C' a' => Grows base (g :: G) C' ∧ WalkF P l base E r (g :: G) B' C' a')

def waitsB (md : Region.Mode) (o : Oper) (k : Nat) : Bool := o.after.any fun e => Region.binds md e && e.on == k
theorem waits_not {o : Oper} {k : Nat} (h : waitsB md o k = true) {listed : Array Bool} (hk : listed.getD k false = false) (hall : ∀ e ∈ o.after, Region.binds md e = true → listed.getD e.on false = true) : False := by
  unfold waitsB at h
  obtain ⟨e, he, hb⟩ := Array.any_eq_true'.1 h
  simp only [Bool.and_eq_true, beq_iff_eq] at hb
  have := hall e he hb.1
  rw [hb.2, hk] at this
  cases this

/-- Every other operation that is not listed, an allocation of ours apart, waits for one that is not listed either and is none of ours. -/
def blockedB (md : Region.Mode) (l : List Oper) (fs : List Nat) (listed : Array Bool) (c : Option Nat) (last : Bool) : Bool :=
  (List.range l.length).all fun j => c == some j || listed.getD j true || fs.contains j || match l[j]? with
    | some o => ((List.range l.length).any fun k => !listed.getD k true && !fs.contains k && waitsB md o k) || (last && fs.all fun k => waitsB md o k)
    | none => true
def stepB (md : Region.Mode) (l : List Oper) (fs : List Nat) (listed : Array Bool) : Bool × Nat → Bool
  | (false, i) => (Region.ready md l.toArray listed).contains i && Region.free md l.toArray listed i && !fs.contains i
  | (true, c) => (Region.ready md l.toArray listed).contains c && blockedB md l fs listed (some c) false && !fs.contains c && fs.all fun m => match l[m]?, l[c]? with
      | some om, some oc => oc.apart l.toArray om
      | _, _ => false
def stepsB (md : Region.Mode) (l : List Oper) (fs : List Nat) : List (Bool × Nat) → Array Bool → Bool × Array Bool
  | [], listed => (blockedB md l fs listed none true && fs.all (fun m => !listed.getD m true), listed)
  | s :: r, listed => match stepsB md l fs r (listed.setIfInBounds s.2 true) with
    | (b, k) => (stepB md l fs listed s && fs.all (fun m => !listed.getD m true) && b, k)

theorem flList_not {listed : Array Bool} {k : Nat} {x : Bool} : ∀ {D : List (Flt × Nat)}, (∀ p, p ∈ D → p.1.idx ≠ k) → (flList listed D).getD k x = listed.getD k x
  | [], _ => rfl
  | (m, b) :: D, h => by
    unfold flList
    rw [getD_set_ne x (h _ List.mem_cons_self)]
    exact flList_not fun p hp => h p (List.mem_cons_of_mem _ hp)
theorem flList_un {listed : Array Bool} {k : Nat} : ∀ {D : List (Flt × Nat)}, (flList listed D).getD k true = false → listed.getD k true = false
  | [], h => h
  | (m, b) :: D, h => by
    unfold flList at h
    by_cases e : m.idx = k
    · subst e
      rcases Nat.lt_or_ge m.idx (flList listed D).size with h' | h'
      · simp [h'] at h
      · simp at h
    · rw [getD_set_ne true e] at h
      exact flList_un h
theorem flList_ready {listed : Array Bool} {i : Nat} : ∀ {D : List (Flt × Nat)}, (∀ p, p ∈ D → p.1.idx ≠ i) → i ∈ Region.ready md l.toArray listed → i ∈ Region.ready md l.toArray (flList listed D)
  | [], _, h => h
  | _ :: _, hn, h => ready_mono (flList_ready (fun p hp => hn p (List.mem_cons_of_mem _ hp)) h) (fun e => hn _ List.mem_cons_self e.symm)
theorem flList_set {listed : Array Bool} {i : Nat} : ∀ {D : List (Flt × Nat)}, (∀ p, p ∈ D → p.1.idx ≠ i) → (flList listed D).setIfInBounds i true = flList (listed.setIfInBounds i true) D
  | [], _ => rfl
  | (m, b) :: D, h => by
    unfold flList
    rw [Array.setIfInBounds_comm _ _ (h _ List.mem_cons_self), flList_set fun p hp => h p (List.mem_cons_of_mem _ hp)]
theorem flAct_exec {a : Act} {o : Oper} (hs : ∀ cs b, o.op ≠ .select cs b) : ∀ {D : List (Flt × Nat)}, (∀ p, p ∈ D → p.1.dst ∉ o.looksAt l.toArray) → execOp (flAct a D).eval o = execOp a.eval o ∧ Region.wanted o (yielded l.toArray (flAct a D).tmps) = Region.wanted o (yielded l.toArray a.tmps)
  | [], _ => ⟨rfl, rfl⟩
  | (m, b) :: D, h => by
    unfold flAct
    have h0 : ∀ d, some m.dst = some d → d ∉ o.looksAt l.toArray := fun d e => by cases e; exact h _ List.mem_cons_self
    rw [execOp_put (ops := l.toArray) o hs _ _ _ h0, wanted_put (ops := l.toArray) o _ _ _ h0]
    exact flAct_exec hs fun p hp => h p (List.mem_cons_of_mem _ hp)
theorem flAct_put {a : Act} {d : Option Tmp} {v : Value} : ∀ {D : List (Flt × Nat)}, (∀ p, p ∈ D → d ≠ some p.1.dst) → (flAct a D).put d v = flAct (a.put d v) D
  | [], _ => rfl
  | (m, b) :: D, h => by
    unfold flAct
    rw [Act.put_comm _ _ _ (fun e he => by cases he; exact h _ List.mem_cons_self), flAct_put fun p hp => h p (List.mem_cons_of_mem _ hp)]
theorem wp_put {o : Oper} {a : Act} {w : World} {d : Tmp} {v : Value} {K : Act → World → Prop} (hs : ∀ cs b, o.op ≠ .select cs b) (h1 : d ∉ o.looksAt l.toArray) (h2 : o.dst ≠ some d) (h : o.wp P a w K NoExit) :
    o.wp P (a.put (some d) v) w (fun a' w' => ∃ a0, a' = a0.put (some d) v ∧ K a0 w') NoExit := by
  unfold Oper.wp at *
  rw [execOp_put (ops := l.toArray) o hs a _ _ (fun x e => by cases e; exact h1)]
  have hc : ∀ (a : Act) u, (a.put (some d) v).put o.dst u = (a.put o.dst u).put (some d) v := fun a u => Act.put_comm a v u fun x e => by cases e; exact h2
  generalize (execOp a.eval o).run P w = r at *
  cases r with
  | ok n w' =>
    cases n <;> simp only [Oper.upon] at h ⊢
    case value u => exact ⟨_, hc a u, h⟩
    case skip => exact ⟨_, hc a _, h⟩
    case defer x => exact ⟨_, by rw [Act.put_defers]; exact hc _ _, h⟩
    case enter f args =>
      refine Calls.mono h fun e w'' he => ?_
      cases e with
      | returned u => exact ⟨_, hc a u, he⟩
      | panicked c => exact he
      | outgrown => exact (he.elim fun _ he => he.elim fun _ he => (he : False).elim)
    case row row args => exact Rows.mono h fun u w'' he => ⟨_, hc a u, he⟩
  | halt x w' =>
    cases x <;> simp only [Oper.upon] at h ⊢
    exact h
theorem wp_flAct {o : Oper} {a : Act} {w : World} {K : Act → World → Prop} (hs : ∀ cs b, o.op ≠ .select cs b) (h : o.wp P a w K NoExit) :
    ∀ {D : List (Flt × Nat)}, (∀ p, p ∈ D → p.1.dst ∉ o.looksAt l.toArray ∧ o.dst ≠ some p.1.dst) → o.wp P (flAct a D) w (fun a' w' => ∃ a0, a' = flAct a0 D ∧ K a0 w') NoExit
  | [], _ => Oper.wp_mono (fun a' w' hk => ⟨a', rfl, hk⟩) h
  | (m, b) :: D, hd => by
    have h1 := wp_flAct hs h (D := D) fun p hp => hd p (List.mem_cons_of_mem _ hp)
    obtain ⟨h2, h3⟩ := hd _ List.mem_cons_self
    exact Oper.wp_mono (fun a' w' ⟨a0, e0, a1, e1, hk⟩ => ⟨a1, by rw [e0, e1]; rfl, hk⟩) (wp_put (v := .pointer (some ⟨b, 0, none⟩)) hs h2 h3 h1)

/-- What is known of our allocations. -/
structure Floats (P : Program) (l : List Oper) (md : Region.Mode) (fl : List Flt) : Prop where
  nodup : (fl.map (·.idx)).Nodup
  op : ∀ m, m ∈ fl → ∃ o, l[m.idx]? = some o ∧ o.dst = some m.dst ∧ o.guard = none ∧ (∀ e ∈ o.after, Region.binds md e = true → False) ∧ ∀ (a : Act) (w : World), (execOp a.eval o).run P w = .ok (.value (.pointer (some ⟨w.heap.size, 0, none⟩))) (w.alloc m.obj)
  fresh : ∀ m, m ∈ fl → ∀ w : World, m.ok (w.alloc m.obj) w.heap.size
  keep : ∀ m, m ∈ fl → ∀ (w w' : World) (b : Nat), b < w.heap.size → w'.heap[b]? = w.heap[b]? → m.ok w b → m.ok w' b

theorem flt_any {Q : Act → World → Prop} {E : List (Nat × Nat) → (World → Prop) → (World → Prop) → Act → Prop} {g : Nat} {Lend : Array Bool} (hF : Floats P l md fl) (hsel : Region.noSelect l.toArray = true)
    (hE : ∀ G B C a D, (∀ x, C x → B x) → (D.map (·.1)).Perm fl → (∃ w, flCls C base G D w) → E G B C a → anyC P md l.toArray Q g (flList Lend D) (flCls B base G D) (flCls C base G D) (flAct a D)) :
    ∀ (f : Nat) (steps : List (Bool × Nat)) (U : List Flt) (D : List (Flt × Nat)) (G : List (Nat × Nat)) (B C : World → Prop) (a : Act) (listed : Array Bool), f = steps.length + U.length → (U ++ D.map (·.1)).Perm fl →
      stepsB md l (fl.map (·.idx)) steps listed = (true, Lend) → (∀ x, C x → B x) → Grows base G C → (∃ w, flCls C base G D w) → WalkF P l base E steps G B C a →
      anyC P md l.toArray Q (f + g) (flList listed D) (flCls B base G D) (flCls C base G D) (flAct a D) := by
  have flMono : ∀ {B C : World → Prop} {G : List (Nat × Nat)} {D : List (Flt × Nat)}, (∀ x, C x → B x) → ∀ x, flCls C base G D x → flCls B base G D x := fun h x hx => ⟨h x hx.1, hx.2⟩
  have hsl := Region.noSelect_spec hsel
  intro f
  induction f with
  | zero =>
    intro steps U D G B C a listed hf hp hB hBC hG hne hW
    obtain rfl : steps = [] := List.eq_nil_of_length_eq_zero (by omega)
    obtain rfl : U = [] := List.eq_nil_of_length_eq_zero (by omega)
    unfold stepsB at hB
    obtain rfl : listed = Lend := (Prod.mk.inj hB).2
    rw [Nat.zero_add]
    exact hE G B C a D hBC (by simpa using hp) hne hW
  | succ f ih =>
    intro steps U D G B C a listed hf hp hB hBC hG hne hW
    have hmem : ∀ m, m ∈ fl ↔ m ∈ U ∨ m ∈ D.map (·.1) := fun m => by rw [← hp.mem_iff, List.mem_append]
    have hnd : ((U ++ D.map (·.1)).map (·.idx)).Nodup := (hp.map _).nodup_iff.2 hF.nodup
    have hDU : ∀ m, m ∈ U → ∀ p, p ∈ D → p.1.idx ≠ m.idx := fun m hm p hp' e => by
      rw [List.map_append, List.nodup_append] at hnd
      exact hnd.2.2 m.idx (List.mem_map.2 ⟨m, hm, rfl⟩) p.1.idx (List.mem_map.2 ⟨p.1, List.mem_map.2 ⟨p, hp', rfl⟩, rfl⟩) e.symm
    have hDf : ∀ p, p ∈ D → p.1 ∈ fl := fun p hp' => (hmem _).2 (.inr (List.mem_map.2 ⟨p, hp', rfl⟩))
    have hidx : ∀ p, p ∈ D → ∀ k, (fl.map (·.idx)).contains k = false → p.1.idx ≠ k := fun p hp' k hk e => by
      have : (fl.map (·.idx)).contains k = true := by rw [List.contains_iff_mem]; exact List.mem_map.2 ⟨p.1, hDf p hp', e⟩
      rw [hk] at this; cases this
    -- an allocation of ours comes up
    have float : ∀ m, m ∈ U → opC P l.toArray (flCls B base G D) (flCls C base G D) m.idx (anyC P md l.toArray Q (f + g) ((flList listed D).setIfInBounds m.idx true)) (flAct a D) := fun m hm => by
      obtain ⟨o, ho, hd, hg, _, hrun⟩ := hF.op m ((hmem m).2 (.inl hm))
      have hoa : l.toArray[m.idx]? = some o := by simpa using ho
      unfold opC
      simp only [hoa]
      have hw : Region.wanted o (yielded l.toArray (flAct a D).tmps) = true := by unfold Region.wanted; rw [hg]
      simp only [hw, if_true]
      refine .inr fun w hw => ?_
      unfold Oper.wp
      rw [hrun]
      show ∃ B' C', _
      obtain ⟨hC, hn, hD⟩ := hw
      obtain ⟨hb, hgs, hal⟩ := hG w hC
      have hlt : ∀ p, p ∈ D → p.2 < w.heap.size := fun p hp' => (hD p hp').2.1
      have hm0 := hm
      obtain ⟨U1, U2, rfl⟩ := List.append_of_mem hm
      have hin : flCls C base G ((m, w.heap.size) :: D) (w.alloc m.obj) := by
        refine ⟨hal _, ?_, ?_⟩
        · rw [List.map_cons, List.nodup_cons]
          refine ⟨fun hc => ?_, hn⟩
          obtain ⟨p, hp', e⟩ := List.mem_map.1 hc
          have := hlt p hp'
          omega
        · intro p hp'
          rcases List.mem_cons.1 hp' with rfl | hp'
          · exact ⟨hb, by simp, hF.fresh m ((hmem m).2 (.inl hm0)) w, fun g hg => .inr (hgs g hg)⟩
          · exact ⟨(hD p hp').1, by have := hlt p hp'; simp; omega, hF.keep _ (hDf p hp') w _ _ (hlt p hp') (Below.heap_alloc w _ _ (hlt p hp')) (hD p hp').2.2.1, (hD p hp').2.2.2⟩
      refine ⟨flCls B base G ((m, w.heap.size) :: D), flCls C base G ((m, w.heap.size) :: D), hin, flMono hBC, ?_, ?_⟩
      · rintro x ⟨x1, x2, x3⟩
        rw [List.map_cons, List.nodup_cons] at x2
        exact ⟨x1, x2.2, fun p hp' => x3 p (List.mem_cons_of_mem _ hp')⟩
      · rw [hd]
        refine ih steps (U1 ++ U2) ((m, w.heap.size) :: D) G B C a listed (by simp at hf ⊢; omega) (List.Perm.trans ?_ hp) hB hBC hG ⟨_, hin⟩ hW
        rw [List.map_cons, List.append_assoc, List.append_assoc]
        refine List.Perm.append_left _ ?_
        rw [List.cons_append]
        exact List.perm_middle
    have undone : ∀ m, m ∈ U → (fl.map (·.idx)).all (fun m => !listed.getD m true) = true → (flList listed D).getD m.idx true = false := fun m hm hall => by
      rw [flList_not fun p hp' => hDU m hm p hp']
      have := List.all_eq_true.1 hall m.idx (List.mem_map.2 ⟨m, (hmem m).2 (.inl hm), rfl⟩)
      simpa using this
    have uready : ∀ m, m ∈ U → (fl.map (·.idx)).all (fun m => !listed.getD m true) = true → m.idx ∈ Region.ready md l.toArray (flList listed D) := fun m hm hall => by
      obtain ⟨o, ho, _, _, ha, _⟩ := hF.op m ((hmem m).2 (.inl hm))
      exact mem_ready.2 ⟨undone m hm hall, o, by simpa using ho, fun e he hb => (ha e he hb).elim⟩
    -- who may come up
    have who : ∀ (c : Option Nat) (last : Bool), blockedB md l (fl.map (·.idx)) listed c last = true → (last = true → U ≠ []) → (fl.map (·.idx)).all (fun m => !listed.getD m true) = true →
        ∀ j, j ∈ Region.ready md l.toArray (flList listed D) → c = some j ∨ ∃ m, m ∈ U ∧ m.idx = j := fun c last hb hl hall j hj => by
      obtain ⟨hun, o, ho, hready⟩ := mem_ready.1 hj
      have ho' : l[j]? = some o := by simpa using ho
      have hjl : j < l.length := (List.getElem?_eq_some_iff.1 ho').1
      have h1 := List.all_eq_true.1 hb j (List.mem_range.2 hjl)
      simp only [Bool.or_eq_true, beq_iff_eq, flList_un hun, Bool.false_eq_true, or_false, ho', Bool.and_eq_true] at h1
      rcases h1 with (h1 | h1) | h1 | ⟨h1, h2⟩
      · exact .inl h1
      · rw [List.contains_iff_mem] at h1
        obtain ⟨m, hm, e⟩ := List.mem_map.1 h1
        rcases (hmem m).1 hm with h | h
        · exact .inr ⟨m, h, e⟩
        · exfalso
          obtain ⟨p, hp', e'⟩ := List.mem_map.1 h
          have hset : ∀ (D : List (Flt × Nat)), p ∈ D → (flList listed D).getD p.1.idx true = true := by
            intro D
            induction D with
            | nil => intro h; cases h
            | cons q D ihD =>
              intro h
              unfold flList
              by_cases hq : q.1.idx = p.1.idx
              · rw [hq]
                rcases Nat.lt_or_ge p.1.idx (flList listed D).size with h' | h'
                · simp [h']
                · simp
              · rcases List.mem_cons.1 h with e | h
                · rw [e] at hq; exact absurd rfl hq
                · rw [getD_set_ne true hq]; exact ihD h
          have := hset D hp'
          rw [show p.1.idx = j from by rw [← e, ← e']] at this
          rw [hun] at this
          cases this
      · exfalso
        obtain ⟨k, _, hk⟩ := List.any_eq_true.1 h1
        simp only [Bool.and_eq_true, Bool.not_eq_true'] at hk
        obtain ⟨⟨hk1, hk2⟩, hk3⟩ := hk
        refine waits_not hk3 ?_ hready
        have : (flList listed D).getD k true = false := by rw [flList_not fun p hp' => hidx p hp' k hk2]; exact hk1
        exact getD_both this
      · exfalso
        obtain ⟨m, hm⟩ := List.exists_mem_of_ne_nil _ (hl h1)
        exact waits_not (List.all_eq_true.1 h2 m.idx (List.mem_map.2 ⟨m, (hmem m).2 (.inl hm), rfl⟩)) (getD_both (undone m hm hall)) hready
    match steps, hf, hB, hW with
    | [], hf, hB, hW =>
      unfold stepsB at hB
      have hB1 := (Prod.mk.inj hB).1
      rw [Bool.and_eq_true] at hB1
      have hU : U ≠ [] := by rintro rfl; simp at hf
      rw [Nat.succ_add]
      refine ⟨fun h0 => ?_, fun j hj => ?_⟩
      · obtain ⟨m, hm⟩ := List.exists_mem_of_ne_nil _ hU
        have := uready m hm hB1.2
        rw [h0] at this
        cases this
      · rcases who none true hB1.1 (fun _ => hU) hB1.2 j hj with h | ⟨m, hm, rfl⟩
        · cases h
        · exact float m hm
    | (false, i) :: r, hf, hB, hW =>
      have hB' := hB
      unfold stepsB at hB
      dsimp only at hB
      have hB1 := (Prod.mk.inj hB).1
      have hB2 := (Prod.mk.inj hB).2
      simp only [Bool.and_eq_true] at hB1
      obtain ⟨⟨hs, hall⟩, hr⟩ := hB1
      unfold stepB at hs
      simp only [Bool.and_eq_true, Bool.not_eq_true'] at hs
      obtain ⟨⟨h1, h2⟩, h3⟩ := hs
      obtain ⟨o, v, ho, hl, hk⟩ := hW
      have hoa : l.toArray[i]? = some o := by simpa using ho
      have hne' : ∀ p, p ∈ D → p.1.idx ≠ i := fun p hp' => hidx p hp' i h3
      have hap : ∀ p, p ∈ D → p.1.dst ∉ o.looksAt l.toArray ∧ o.dst ≠ some p.1.dst := fun p hp' => by
        obtain ⟨om, hom, hd, _, ha, _⟩ := hF.op p.1 (hDf p hp')
        have hun : listed.getD p.1.idx true = false := by
          have := List.all_eq_true.1 hall p.1.idx (List.mem_map.2 ⟨p.1, hDf p hp', rfl⟩)
          simpa using this
        have := Region.free_spec hoa h2 p.1.idx om (by simpa using hom) (hne' p hp') hun (fun e he hb => (ha e he hb).elim)
        obtain ⟨a1, a2, a3⟩ := Oper.apart_spec this
        exact ⟨a3 _ hd, fun e => a2 _ e hd⟩
      obtain ⟨e1, e2⟩ := flAct_exec (a := a) (fun cs b => hsl i o cs b hoa) fun p hp' => (hap p hp').1
      rw [Nat.succ_add]
      refine anyC_first hoa hsl (f + g) _ _ _ _ (flMono hBC) (fun j oj hj hji hun hno => Region.free_spec hoa h2 j oj hj hji (flList_un hun) hno) (flList_ready hne' (by simpa using h1)) ((hl.sub fun x hx => hx.1).of_same e1 e2) ?_
      rw [flList_set hne', flAct_put fun p hp' => (hap p hp').2]
      exact ih r U D G B C (a.put o.dst v) (listed.setIfInBounds i true) (by simp at hf; omega) hp (by rw [Prod.ext_iff]; exact ⟨hr, hB2⟩) hBC hG hne hk
    | (true, c) :: r, hf, hB, hW =>
      unfold stepsB at hB
      dsimp only at hB
      have hB1 := (Prod.mk.inj hB).1
      have hB2 := (Prod.mk.inj hB).2
      simp only [Bool.and_eq_true] at hB1
      obtain ⟨⟨hs, hall⟩, hr⟩ := hB1
      unfold stepB at hs
      simp only [Bool.and_eq_true, Bool.not_eq_true'] at hs
      obtain ⟨⟨⟨h1, h2⟩, h3⟩, h4⟩ := hs
      obtain ⟨o, ho, hg, ht⟩ := hW
      have hoa : l.toArray[c]? = some o := by simpa using ho
      have hne' : ∀ p, p ∈ D → p.1.idx ≠ c := fun p hp' => hidx p hp' c h3
      have hap : ∀ p, p ∈ D → p.1.dst ∉ o.looksAt l.toArray ∧ o.dst ≠ some p.1.dst := fun p hp' => by
        obtain ⟨om, hom, hd, _, _, _⟩ := hF.op p.1 (hDf p hp')
        have := List.all_eq_true.1 h4 p.1.idx (List.mem_map.2 ⟨p.1, hDf p hp', rfl⟩)
        simp only [hom, ho] at this
        obtain ⟨a1, a2, a3⟩ := Oper.apart_spec this
        exact ⟨a3 _ hd, fun e => a2 _ e hd⟩
      rw [Nat.succ_add]
      have hrd := flList_ready (md := md) (l := l) hne' (by simpa using h1)
      refine ⟨fun h0 => (by rw [h0] at hrd; cases hrd), fun j hj => ?_⟩
      rcases who (some c) false h2 (fun h => (by cases h)) hall j hj with h | ⟨m, hm, rfl⟩
      · cases h
        unfold opC
        simp only [hoa]
        have hw : Region.wanted o (yielded l.toArray (flAct a D).tmps) = true := by unfold Region.wanted; rw [hg]
        simp only [hw, if_true]
        refine .inr fun w ⟨hC, hn, hD⟩ => ?_
        refine Oper.wp_mono ?_ (wp_flAct (fun cs b => hsl c o cs b hoa) (ht w hC) hap)
        rintro a' w' ⟨a0, rfl, hb, B', C', c1, c2, c3, c4, c5⟩
        have hin : flCls C' base ((w.heap.size, w'.heap.size) :: G) D w' := ⟨c1, hn, fun p hp' => ⟨(hD p hp').1, Nat.lt_of_lt_of_le (hD p hp').2.1 hb.1, hF.keep _ (hDf p hp') w _ _ (hD p hp').2.1 (hb.2 _ (hD p hp').1 (hD p hp').2.1) (hD p hp').2.2.1, fun g hg => by
          rcases List.mem_cons.1 hg with rfl | hg
          · exact .inl (hD p hp').2.1
          · exact (hD p hp').2.2.2 g hg⟩⟩
        refine ⟨flCls B' base ((w.heap.size, w'.heap.size) :: G) D, flCls C' base ((w.heap.size, w'.heap.size) :: G) D, hin, flMono c2, fun x hx => ⟨c3 x hx.1, hx.2.1, fun p hp' => ⟨(hx.2.2 p hp').1, (hx.2.2 p hp').2.1, (hx.2.2 p hp').2.2.1, fun g hg => (hx.2.2 p hp').2.2.2 g (List.mem_cons_of_mem _ hg)⟩⟩, ?_⟩
        · rw [flList_set hne']
          exact ih r U D ((w.heap.size, w'.heap.size) :: G) B' C' a0 (listed.setIfInBounds c true) (by simp at hf; omega) hp (by rw [Prod.ext_iff]; exact ⟨hr, hB2⟩) c2 c4 ⟨_, hin⟩ c5
      · exact float m hm
/-- The walk in stretches, as in Seq. -/
def SeqF (P : Program) (l : List Oper) (base : Nat) (E : List (Nat × Nat) → (World → Prop) → (World → Prop) → Act → Prop) (s : List Nat) : List (List Nat × Nat) → List (Nat × Nat) → (World → Prop) → (World → Prop) → Act → Prop
  | [], G, B, C, a => wpQuiet P l.toArray (fun w' => ∃ x : In B, w' = x.w) (fun a' => E G B C a') (opsAt l s) a
  | (q, c) :: rest, G, B, C, a => wpQuiet P l.toArray (fun w' => ∃ x : In B, w' = x.w) (fun a' => ∃ o, l[c]? = some o ∧ o.guard = none ∧ TurnsB P base o a' B C (fun g B' C' a'' => Grows base (g :: G) C' ∧ SeqF P l base E s rest (g :: G) B' C' a'')) (opsAt l q) a
def flat (s : List Nat) : List (List Nat × Nat) → List (Bool × Nat)
  | [] => s.map fun i => (false, i)
  | (q, c) :: rest => (q.map fun i => (false, i)) ++ (true, c) :: flat s rest
def plainAll (l : List Oper) (s : List Nat) : Bool := s.all fun i => ((l[i]?).map plainB).getD false
def plainSegs (l : List Oper) (s : List Nat) : List (List Nat × Nat) → Bool
  | [] => plainAll l s
  | (q, _) :: rest => plainAll l q && plainSegs l s rest
theorem walk_quiet {G : List (Nat × Nat)} {B C : World → Prop} {E : List (Nat × Nat) → (World → Prop) → (World → Prop) → Act → Prop} {K : Act → Prop} {r : List (Bool × Nat)} (hK : ∀ a, K a → WalkF P l base E r G B C a) :
    ∀ (q : List Nat) (a : Act), plainAll l q = true → wpQuiet P l.toArray B K (opsAt l q) a → WalkF P l base E ((q.map fun i => (false, i)) ++ r) G B C a
  | [], a, _, h => hK a h
  | i :: q, a, hp, h => by
    unfold plainAll at hp
    rw [List.all_cons, Bool.and_eq_true] at hp
    cases ho : l[i]? with
    | none => rw [ho] at hp; exact absurd hp.1 (by simp)
    | some o =>
      rw [ho] at hp
      have e : opsAt l (i :: q) = o :: opsAt l q := by unfold opsAt; rw [List.filterMap_cons]; simp [ho]
      rw [e] at h
      have hlex : ∃ v, LeavesV P l.toArray B o v a ∧ wpQuiet P l.toArray B K (opsAt l q) (a.put o.dst v) := by
        change (if Region.wanted o (yielded l.toArray a.tmps) then o.quiet P a B (wpQuiet P l.toArray B K (opsAt l q)) else wpQuiet P l.toArray B K (opsAt l q) (a.put o.dst undef)) at h
        by_cases hw : Region.wanted o (yielded l.toArray a.tmps) = true
        · rw [if_pos hw] at h
          obtain ⟨v, hv, hk⟩ := h
          exact ⟨v, .inl ⟨hw, looks_of_quiet (by simpa using hp.1) hv⟩, hk⟩
        · rw [if_neg hw] at h
          exact ⟨undef, .inr ⟨by simpa using hw, rfl⟩, h⟩
      obtain ⟨v, hv, hk⟩ := hlex
      exact ⟨o, v, ho, hv, walk_quiet hK q _ hp.2 hk⟩
theorem walk_of_seqF {E : List (Nat × Nat) → (World → Prop) → (World → Prop) → Act → Prop} {s : List Nat} : ∀ (segs : List (List Nat × Nat)) (G : List (Nat × Nat)) (B C : World → Prop) (a : Act), plainSegs l s segs = true → SeqF P l base E s segs G B C a → WalkF P l base E (flat s segs) G B C a
  | [], G, B, C, a, hp, h => by
    unfold SeqF at h
    rw [cls_eq] at h
    have := walk_quiet (P := P) (l := l) (base := base) (B := B) (C := C) (E := E) (r := []) (G := G) (K := fun a' => E G B C a') (fun a h => h) s a hp h
    rwa [List.append_nil] at this
  | (q, c) :: rest, G, B, C, a, hp, h => by
    unfold plainSegs at hp
    rw [Bool.and_eq_true] at hp
    unfold SeqF at h
    rw [cls_eq] at h
    exact walk_quiet (r := (true, c) :: flat s rest) (fun a' ⟨o, ho, hg, ht⟩ => ⟨o, ho, hg, fun w hw => Oper.wp_mono (fun _ _ ⟨h1, B', C', h2, h3, h4, h5, h6⟩ => ⟨h1, B', C', h2, h3, h4, h5, walk_of_seqF rest _ B' C' _ hp.2 h6⟩) (ht w hw)⟩) q a hp.1 h

def flSet (listed : Array Bool) (fs : List Flt) : Array Bool := fs.foldr (fun m k => k.setIfInBounds m.idx true) listed
theorem flList_perm {listed : Array Bool} {fs : List Flt} : ∀ {D : List (Flt × Nat)}, (D.map (·.1)).Perm fs → flList listed D = flSet listed fs := fun {D} h => by
  have e : ∀ D : List (Flt × Nat), flList listed D = flSet listed (D.map (·.1)) := by
    intro D
    induction D with
    | nil => rfl
    | cons p D ih => unfold flList; rw [ih]; rfl
  rw [e D]
  unfold flSet
  exact List.Perm.foldr_eq' h (fun x _ y _ z => by
    by_cases hxy : x.idx = y.idx
    · rw [hxy]
    · exact Array.setIfInBounds_comm _ _ hxy) _

theorem turnsB_step {o : Oper} {a : Act} {C : World → Prop} {K : Nat × Nat → (World → Prop) → (World → Prop) → Act → Prop}
    (h : ∀ (Z : Act → World → Prop) w, C w → (∀ (C' : World → Prop) a' w', Below w.heap.size w w' → C' w' → (∀ x, C' x → C x) → K (w.heap.size, w'.heap.size) C' C' a' → Z a' w') → o.wp P a w Z NoExit) : TurnsB P base o a C C K :=
  fun w hw => h _ w hw fun C' _ _ h1 h2 h3 h4 => ⟨Keeps.of_below h1, C', C', h2, fun _ hx => hx, h3, h4⟩
theorem turnsB_step2 {o : Oper} {a : Act} {B C : World → Prop} {K : Nat × Nat → (World → Prop) → (World → Prop) → Act → Prop}
    (h : ∀ (Z : Act → World → Prop) w, C w → (∀ (B' C' : World → Prop) a' w', Keeps base w w' → C' w' → (∀ x, C' x → B' x) → (∀ x, B' x → B x) → K (w.heap.size, w'.heap.size) B' C' a' → Z a' w') → o.wp P a w Z NoExit) : TurnsB P base o a B C K :=
  fun w hw => h _ w hw fun B' C' _ _ h1 h2 h3 h4 h5 => ⟨h1, B', C', h2, h3, h4, h5⟩
end

def fltOk (l : List Oper) (fs : List Flt) (segs : List (List Nat × Nat)) (s : List Nat) (tsegs : List (List Nat × Nat)) (t : List Nat) : Bool :=
  Region.noSelect l.toArray && plainSegs l s segs && (stepsB .any l (fs.map (·.idx)) (flat s segs) (Array.replicate l.length false)).1 &&
    seqOk .any l t tsegs (flSet (stepsB .any l (fs.map (·.idx)) (flat s segs) (Array.replicate l.length false)).2 fs) && ((flat s segs).length + fs.length + seqLen t tsegs == l.length)

/-- The rule. -/
theorem wp_region_flt2 {P : Program} {l : List Oper} {id : Nat} {Q : Exit → Act → World → Prop} {a : Act} {W : World} (B C : World → Prop) (fs : List Flt) (segs : List (List Nat × Nat)) (s : List Nat) (tsegs : List (List Nat × Nat)) (t : List Nat)
    (hm : P.follows .mixedOrders = true) (hB : fltOk l fs segs s tsegs t = true) (hF : Floats P l .any fs) (hG : Grows W.heap.size [] C) (hBC : ∀ x, C x → B x) (hC : ∀ n, C { W with drawn := n })
    (h : SeqF P l W.heap.size (fun G B' C' a' => ∀ D, (D.map (·.1)).Perm fs → (∃ w, flCls C' W.heap.size G D w) → Seq P l (fun a'' w'' => Q .normal a'' w'') t tsegs (flCls B' W.heap.size G D) (flCls C' W.heap.size G D) (flAct a' D)) s segs [] B C a) :
    (Code.region id l.toArray true).wp P Q a W := by
  unfold fltOk at hB
  simp only [Bool.and_eq_true, beq_iff_eq] at hB
  obtain ⟨⟨⟨⟨h1, h2⟩, h3⟩, h4⟩, h5⟩ := hB
  refine wp_region_any hm ?_
  have hn : ∃ w, flCls C W.heap.size [] [] w := ⟨{ W with drawn := 0 }, hC 0, List.nodup_nil, fun p hp => (by cases hp)⟩
  have main := flt_any (md := .any) (base := W.heap.size) (fl := fs) (Q := fun a'' w'' => Q .normal a'' w'') (g := seqLen t tsegs) (Lend := (stepsB .any l (fs.map (·.idx)) (flat s segs) (Array.replicate l.length false)).2) hF h1
    (fun G B' C' a' D hbc hp hne hk => by
      rw [flList_perm hp]
      exact seq_any h1 tsegs _ _ _ _ (fun x hx => ⟨hbc x hx.1, hx.2⟩) h4 (hk D hp hne)) _ (flat s segs) fs [] [] B C a (Array.replicate l.length false) rfl (by simp) (by rw [Prod.ext_iff]; exact ⟨h3, rfl⟩) hBC hG hn (walk_of_seqF segs [] B C a h2 h)
  have ec : ∀ C : World → Prop, flCls C W.heap.size [] [] = C := fun C => funext fun w => propext ⟨fun h => h.1, fun h => ⟨h, List.nodup_nil, fun p hp => (by cases hp)⟩⟩
  rw [ec B, ec C, h5] at main
  have := any_of_anyC (Q' := Q) (fun _ _ hq => hq) _ _ B C a _ hBC (hC (W.drawn + 1)) main
  simpa [flList, flAct] using this
theorem wp_region_flt {P : Program} {l : List Oper} {id : Nat} {Q : Exit → Act → World → Prop} {a : Act} {W : World} (C : World → Prop) (fs : List Flt) (segs : List (List Nat × Nat)) (s : List Nat) (tsegs : List (List Nat × Nat)) (t : List Nat)
    (hm : P.follows .mixedOrders = true) (hB : fltOk l fs segs s tsegs t = true) (hF : Floats P l .any fs) (hG : Grows W.heap.size [] C) (hC : ∀ n, C { W with drawn := n })
    (h : SeqF P l W.heap.size (fun G B' C' a' => ∀ D, (D.map (·.1)).Perm fs → (∃ w, flCls C' W.heap.size G D w) → Seq P l (fun a'' w'' => Q .normal a'' w'') t tsegs (flCls B' W.heap.size G D) (flCls C' W.heap.size G D) (flAct a' D)) s segs [] C C a) :
    (Code.region id l.toArray true).wp P Q a W := wp_region_flt2 C C fs segs s tsegs t hm hB hF hG (fun _ hx => hx) hC h

theorem floats_one {P : Program} {l : List Oper} {md : Region.Mode} {m : Flt} (h : ∃ o, l[m.idx]? = some o ∧ o.dst = some m.dst ∧ o.guard = none ∧ (∀ e ∈ o.after, Region.binds md e = true → False) ∧ ∀ (a : Act) (w : World), (execOp a.eval o).run P w = .ok (.value (.pointer (some ⟨w.heap.size, 0, none⟩))) (w.alloc m.obj))
    (hf : ∀ w : World, m.ok (w.alloc m.obj) w.heap.size) (hk : ∀ (w w' : World) (b : Nat), b < w.heap.size → w'.heap[b]? = w.heap[b]? → m.ok w b → m.ok w' b) : Floats P l md [m] :=
  ⟨by simp, fun x hx => by obtain rfl : x = m := by simpa using hx
                           exact h, fun x hx => by obtain rfl : x = m := by simpa using hx
                                                   exact hf, fun x hx => by obtain rfl : x = m := by simpa using hx
                                                                            exact hk⟩
theorem floats_two {P : Program} {l : List Oper} {md : Region.Mode} {m m' : Flt} (hne : m.idx ≠ m'.idx) (h : Floats P l md [m]) (h' : Floats P l md [m']) : Floats P l md [m, m'] :=
  have split : ∀ {Z : Flt → Prop}, Z m → Z m' → ∀ x, x ∈ [m, m'] → Z x := fun hz hz' x hx => by
    rcases List.mem_cons.1 hx with rfl | hx
    · exact hz
    · obtain rfl : x = m' := by simpa using hx
      exact hz'
  ⟨by simp [hne], split (h.op _ List.mem_cons_self) (h'.op _ List.mem_cons_self), split (h.fresh _ List.mem_cons_self) (h'.fresh _ List.mem_cons_self), split (h.keep _ List.mem_cons_self) (h'.keep _ List.mem_cons_self)⟩
theorem flCls_one {m : Flt} {base b : Nat} {G : List (Nat × Nat)} {C : World → Prop} (h0 : base ≤ b) (hg : ∀ g, g ∈ G → b < g.1 ∨ g.2 ≤ b) : flCls C base G [(m, b)] = fun z => C z ∧ b < z.heap.size ∧ m.ok z b :=
  funext fun z => propext ⟨fun ⟨g1, _, g3⟩ => ⟨g1, (g3 _ List.mem_cons_self).2.1, (g3 _ List.mem_cons_self).2.2.1⟩, fun ⟨g1, g2, g3⟩ => ⟨g1, by simp, fun p hp => by
      obtain rfl : p = (m, b) := by simpa using hp
      exact ⟨h0, g2, g3, hg⟩⟩⟩
/-- One such allocation. -/
theorem flt_one {m : Flt} {base : Nat} {G : List (Nat × Nat)} {B C : World → Prop} {a : Act} {R : (World → Prop) → (World → Prop) → Act → Prop}
    (h : ∀ b, base ≤ b → (∀ g, g ∈ G → b < g.1 ∨ g.2 ≤ b) → (∃ w, C w ∧ b < w.heap.size ∧ m.ok w b) → R (fun z => B z ∧ b < z.heap.size ∧ m.ok z b) (fun z => C z ∧ b < z.heap.size ∧ m.ok z b) (a.put (some m.dst) (.pointer (some ⟨b, 0, none⟩)))) :
    ∀ D, (D.map (·.1)).Perm [m] → (∃ w, flCls C base G D w) → R (flCls B base G D) (flCls C base G D) (flAct a D) := by
  intro D hp ⟨w, hw⟩
  match D, hp with
  | [], hp => exact absurd hp.length_eq (by simp)
  | [(m', b)], hp =>
    obtain rfl : m' = m := by simpa using hp
    have h1 := hw.2.2 _ List.mem_cons_self
    rw [flCls_one h1.1 h1.2.2.2, flCls_one h1.1 h1.2.2.2]
    exact h b h1.1 h1.2.2.2 ⟨w, hw.1, h1.2.1, h1.2.2.1⟩
  | _ :: _ :: _, hp => exact absurd hp.length_eq (by simp)
theorem flCls_two {m n : Flt} {base b c : Nat} {G : List (Nat × Nat)} {C : World → Prop} (hbc : b ≠ c) (h0 : base ≤ b) (h1 : base ≤ c) (hg : ∀ g, g ∈ G → b < g.1 ∨ g.2 ≤ b) (hg' : ∀ g, g ∈ G → c < g.1 ∨ g.2 ≤ c) :
    flCls C base G [(m, b), (n, c)] = fun z => C z ∧ (b < z.heap.size ∧ m.ok z b) ∧ c < z.heap.size ∧ n.ok z c :=
  funext fun z => propext ⟨fun ⟨g1, _, g3⟩ => ⟨g1, ⟨(g3 _ List.mem_cons_self).2.1, (g3 _ List.mem_cons_self).2.2.1⟩, (g3 _ (List.mem_cons_of_mem _ List.mem_cons_self)).2.1, (g3 _ (List.mem_cons_of_mem _ List.mem_cons_self)).2.2.1⟩, fun ⟨g1, g2, g3⟩ => ⟨g1, by simp [hbc], fun p hp => by
      rcases List.mem_cons.1 hp with rfl | hp
      · exact ⟨h0, g2.1, g2.2, hg⟩
      · obtain rfl : p = (n, c) := by simpa using hp
        exact ⟨h1, g3.1, g3.2, hg'⟩⟩⟩
/-- Two of them. -/
theorem flt_two {m n : Flt} {base : Nat} {G : List (Nat × Nat)} {B C : World → Prop} {a : Act} {R : (World → Prop) → (World → Prop) → Act → Prop} (hd : m.dst ≠ n.dst)
    (h : ∀ b c, b ≠ c → base ≤ b → base ≤ c → (∀ g, g ∈ G → b < g.1 ∨ g.2 ≤ b) → (∀ g, g ∈ G → c < g.1 ∨ g.2 ≤ c) → (∃ w, C w ∧ (b < w.heap.size ∧ m.ok w b) ∧ c < w.heap.size ∧ n.ok w c) →
      R (fun z => B z ∧ (b < z.heap.size ∧ m.ok z b) ∧ c < z.heap.size ∧ n.ok z c) (fun z => C z ∧ (b < z.heap.size ∧ m.ok z b) ∧ c < z.heap.size ∧ n.ok z c) ((a.put (some m.dst) (.pointer (some ⟨b, 0, none⟩))).put (some n.dst) (.pointer (some ⟨c, 0, none⟩)))) :
    ∀ D, (D.map (·.1)).Perm [m, n] → (∃ w, flCls C base G D w) → R (flCls B base G D) (flCls C base G D) (flAct a D) := by
  intro D hp ⟨w, hw⟩
  match D, hp with
  | [], hp => exact absurd hp.length_eq (by simp)
  | [_], hp => exact absurd hp.length_eq (by simp)
  | [(x, b), (y, c)], hp =>
    have h1 := hw.2.2 (x, b) List.mem_cons_self
    have h2 := hw.2.2 (y, c) (List.mem_cons_of_mem _ List.mem_cons_self)
    have hbc : b ≠ c := by have := hw.2.1; simp at this; exact this
    have hxy : (x = m ∧ y = n) ∨ (x = n ∧ y = m) := by
      have hx : x ∈ [m, n] := hp.subset List.mem_cons_self
      rcases List.mem_cons.1 hx with rfl | hx
      · have := (List.perm_cons x).1 hp
        exact .inl ⟨rfl, by simpa using this⟩
      · obtain rfl : x = n := by simpa using hx
        have := (List.perm_cons x).1 (hp.trans (List.Perm.swap _ _ _))
        exact .inr ⟨rfl, by simpa using this⟩
    rw [flCls_two hbc h1.1 h2.1 h1.2.2.2 h2.2.2.2, flCls_two hbc h1.1 h2.1 h1.2.2.2 h2.2.2.2]
    rcases hxy with ⟨rfl, rfl⟩ | ⟨rfl, rfl⟩
    · have := h b c hbc h1.1 h2.1 h1.2.2.2 h2.2.2.2 ⟨w, hw.1, ⟨h1.2.1, h1.2.2.1⟩, h2.2.1, h2.2.2.1⟩
      unfold flAct flAct flAct
      rw [Act.put_comm _ _ _ (fun d e1 e2 => hd (Option.some.inj (e1.trans e2.symm)))] at this
      exact this
    · have := h c b (Ne.symm hbc) h2.1 h1.1 h2.2.2.2 h1.2.2.2 ⟨w, hw.1, ⟨h2.2.1, h2.2.2.1⟩, h1.2.1, h1.2.2.1⟩
      have e2 : ∀ C : World → Prop, (fun z : World => C z ∧ (b < z.heap.size ∧ x.ok z b) ∧ c < z.heap.size ∧ y.ok z c) = fun z => C z ∧ (c < z.heap.size ∧ y.ok z c) ∧ b < z.heap.size ∧ x.ok z b := fun C => funext fun z => propext ⟨fun ⟨g1, g2, g3⟩ => ⟨g1, g3, g2⟩, fun ⟨g1, g2, g3⟩ => ⟨g1, g3, g2⟩⟩
      rw [e2 B, e2 C]
      exact this
  | _ :: _ :: _ :: _, hp => exact absurd hp.length_eq (by simp)

/-- A class: what lay there lies there; so many blocks; and more. -/
structure St (W : World) (S : Nat) (F : World → Prop) (y : World) : Prop where
  b : Below W.heap.size W y
  s : S ≤ y.heap.size
  f : F y
theorem St.grows {W : World} {S : Nat} {F : World → Prop} {G : List (Nat × Nat)} (hW : W.heap.size ≤ S) (hG : ∀ g, g ∈ G → g.2 ≤ S) (hF : ∀ y o, F y → F (World.alloc y o)) : Grows W.heap.size G (St W S F) :=
  fun y hy => ⟨Nat.le_trans hW hy.s, fun g hg => Nat.le_trans (hG g hg) hy.s, fun o => ⟨hy.b.alloc hy.b.size o, Nat.le_trans hy.s (by simp), hF y o hy.f⟩⟩
theorem St.sub {W : World} {S S' : Nat} {F F' : World → Prop} (h : S ≤ S') (hf : ∀ y, F' y → F y) : ∀ y, St W S' F' y → St W S F y := fun y hy => ⟨hy.b, Nat.le_trans h hy.s, hf y hy.f⟩
theorem St.base (W : World) (m : Nat) : St W W.heap.size (fun _ => True) { W with drawn := m } := ⟨⟨rfl, rfl, rfl, Nat.le_refl _, fun _ _ => rfl⟩, Nat.le_refl _, trivial⟩

end Go.Proofs.Ytmkmaeblnnfheaa
/- A stream's box that may be made at any time. -/
namespace Go.Proofs.Ytmkmaeblnnfheaa
open Go.RowKit

theorem Own6.of_block {w w' : World} {b : Nat} {d : ByteArray} {f : Bool} {l n : Int} {A : Option Addr} {na ca : Nat} {B : Option Addr} {nb cb : Nat} (h : Own6 w b d f l n A na ca B nb cb) (e : w'.heap[b]? = w.heap[b]?) : Own6 w' b d f l n A na ca B nb cb :=
  ⟨h.1.of_cells fun j => World.cell?_of_block (w := w) (a := ⟨b, j, none⟩) e, fun j => (World.frozen?_of_block (w := w) (a := ⟨b, j, none⟩) e).trans (h.2 j)⟩
theorem Own3.of_block {w w' : World} {b : Nat} {o : Int} {d : ByteArray} {f : Bool} (h : Own3 w b o d f) (e : w'.heap[b]? = w.heap[b]?) : Own3 w' b o d f :=
  h.same (fun j => World.cell?_of_block (w := w) (a := ⟨b, j, none⟩) e) fun j => World.frozen?_of_block (w := w) (a := ⟨b, j, none⟩) e
theorem touch6 (w : World) (b : Nat) (v0 v1 v2 v3 v4 v5 : Value) :
    Touch w ((((((w.setCell ⟨b, 0, none⟩ v0).setCell ⟨b, 1, none⟩ v1).setCell ⟨b, 2, none⟩ v2).setCell ⟨b, 3, none⟩ v3).setCell ⟨b, 4, none⟩ v4).setCell ⟨b, 5, none⟩ v5) b (b + 1) := by
  repeat refine Touch.setCell ?_ (by dsimp only; omega) (by dsimp only; omega) _
  exact Touch.refl w b (b + 1)
theorem touch3 (w : World) (b : Nat) (v0 v1 v2 : Value) :
    Touch w (((w.setCell ⟨b, 0, none⟩ v0).setCell ⟨b, 1, none⟩ v1).setCell ⟨b, 2, none⟩ v2) b (b + 1) := by
  repeat refine Touch.setCell ?_ (by dsimp only; omega) (by dsimp only; omega) _
  exact Touch.refl w b (b + 1)

end Go.Proofs.Ytmkmaeblnnfheaa
/- Drawn regions whose last operation waits for all the others: behind it the class may change. -/
namespace Go.Proofs.Ytmkmaeblnnfheaa

section
variable {P : Program} {ops : Array Oper} {md : Region.Mode}
/-- The last one of all, behind every other. -/
def Ends (P : Program) (md : Region.Mode) (ops : Array Oper) (Q : Act → World → Prop) (listed : Array Bool) (C : World → Prop) (a : Act) (j : Nat) : Prop :=
  ∃ oj, ops[j]? = some oj ∧ oj.guard = none ∧ (∀ k, k < ops.size → k ≠ j → ∃ e ∈ oj.after, Region.binds md e = true ∧ e.on = k) ∧ Region.ready md ops (listed.setIfInBounds j true) = [] ∧ ∀ w, C w → oj.wp P a w Q NoExit
theorem wpAny_done {Q' : Exit → Act → World → Prop} {listed : Array Bool} {a : Act} {w : World} (h0 : Region.ready md ops listed = []) (h : Q' .normal a w) : ∀ f, wpAny P md ops Q' f listed a w
  | 0 => ⟨h0, h⟩
  | f + 1 => ⟨fun _ => h, fun i hi => by rw [h0] at hi; cases hi⟩
/-- Whatever order is picked from here on. -/
def anyE (P : Program) (md : Region.Mode) (ops : Array Oper) (Q : Act → World → Prop) : Nat → Array Bool → (World → Prop) → (World → Prop) → Act → Prop
  | 0, listed, _, C, a => Region.ready md ops listed = [] ∧ ∀ w, C w → Q a w
  | f + 1, listed, B, C, a => (Region.ready md ops listed = [] → ∀ w, C w → Q a w) ∧ ∀ i ∈ Region.ready md ops listed, opC P ops B C i (anyE P md ops Q f (listed.setIfInBounds i true)) a ∨ Ends P md ops Q listed C a i

theorem any_of_anyE {Q : Act → World → Prop} {Q' : Exit → Act → World → Prop} (hQ : ∀ a w, Q a w → Q' .normal a w) : ∀ (f : Nat) (listed : Array Bool) (B C : World → Prop) (a : Act) (w : World), (∀ x, C x → B x) → C w → anyE P md ops Q f listed B C a → wpAny P md ops Q' f listed a w
  | 0, _, _, _, _, _, _, hw, h => ⟨h.1, hQ _ _ (h.2 _ hw)⟩
  | f + 1, listed, B, C, a, w, hBC, hw, h => ⟨fun h0 => hQ _ _ (h.1 h0 _ hw), fun i hi => by
      rcases h.2 i hi with h1 | ⟨oj, e1, e2, _, e4, e5⟩
      rotate_left
      · unfold wpOp
        simp only [e1]
        have hwd : Region.wanted oj (yielded ops a.tmps) = true := by unfold Region.wanted; rw [e2]
        simp only [hwd, if_true]
        exact .inl (wp_noexit (fun a' w' h2 => wpAny_done e4 (hQ _ _ h2) f) (e5 w hw))
      unfold opC at h1
      unfold wpOp
      split
      · rename_i ho
        simp only [ho] at h1
        exact any_of_anyE hQ f _ _ _ _ _ hBC hw h1
      · rename_i o ho
        simp only [ho] at h1
        split
        · rename_i hwd
          simp only [hwd, if_true] at h1
          refine .inl ?_
          rcases h1 with ⟨v, hl, hk⟩ | ht
          · unfold Oper.wp
            rcases hl w (hBC w hw) with e | ⟨e, rfl⟩
            · rw [e]; exact any_of_anyE hQ f _ _ _ _ _ hBC hw hk
            · rw [e]; exact any_of_anyE hQ f _ _ _ _ _ hBC hw hk
          · exact wp_noexit (fun a' w' ⟨B', C', h2, h3, _, h4⟩ => any_of_anyE hQ f _ _ _ _ _ h3 h2 h4) (ht w hw)
        · rename_i hwd
          simp only [hwd] at h1
          exact any_of_anyE hQ f _ _ _ _ _ hBC hw h1⟩

theorem anyE_first {Q : Act → World → Prop} {i : Nat} {oi : Oper} {v : Value} (hi : ops[i]? = some oi) (hsel : ∀ (j : Nat) (o : Oper) cs b, ops[j]? = some o → o.op ≠ .select cs b) :
    ∀ (f : Nat) (listed : Array Bool) (B C : World → Prop) (a : Act), (∀ x, C x → B x) →
      (∀ j oj, ops[j]? = some oj → j ≠ i → listed.getD j true = false → (∀ e ∈ oj.after, Region.binds md e = true → e.on ≠ i) → oi.apart ops oj = true) →
      i ∈ Region.ready md ops listed → LeavesV P ops B oi v a →
      anyE P md ops Q f (listed.setIfInBounds i true) B C (a.put oi.dst v) → anyE P md ops Q (f + 1) listed B C a := by
  intro f
  induction f with
  | zero =>
    intro listed B C a _ _ hr hy H
    refine ⟨fun h => (by rw [h] at hr; cases hr), fun j hj => ?_⟩
    by_cases hji : j = i
    · subst hji; exact .inl (hy.opC hi H)
    · have := ready_mono hj hji
      rw [H.1] at this
      cases this
  | succ f ih =>
    intro listed B C a hBC hfree hr hy H
    refine ⟨fun h => (by rw [h] at hr; cases hr), fun j hj => ?_⟩
    by_cases hji : j = i
    · subst hji; exact .inl (hy.opC hi H)
    · have h1' := H.2 j (ready_mono hj hji)
      obtain ⟨hjun, oj, hoj, hall⟩ := mem_ready.1 hj
      have hnot : ∀ e ∈ oj.after, Region.binds md e = true → e.on ≠ i := fun e he hb heq => by
        have h1 := hall e he hb
        have h0 := (mem_ready.1 hr).1
        rw [heq] at h1
        rcases Nat.lt_or_ge i listed.size with h' | h'
        · simp [h'] at h0 h1; rw [h0] at h1; cases h1
        · simp [Array.getElem?_eq_none h'] at h1
      rcases h1' with h1 | ⟨oj', e1, _, e3, _⟩
      rotate_left
      · rw [hoj] at e1
        cases e1
        have hil : i < ops.size := (Array.getElem?_eq_some_iff.1 hi).1
        obtain ⟨e, he, hb, heq⟩ := e3 i hil (Ne.symm hji)
        exact absurd heq (hnot e he hb)
      have h2 := opC_put hoj (hfree j oj hoj hji hjun hnot) (fun cs b => hsel i oi cs b hi) (fun cs b => hsel j oj cs b hoj) hy h1
      have hfree' : ∀ k ok, ops[k]? = some ok → k ≠ i → (listed.setIfInBounds j true).getD k true = false →
          (∀ e ∈ ok.after, Region.binds md e = true → e.on ≠ i) → oi.apart ops ok = true := fun k ok hk hki hun hno => by
        refine hfree k ok hk hki ?_ hno
        by_cases hjk : j = k
        · subst hjk; exact hjun
        · rw [getD_set_ne true hjk] at hun; exact hun
      refine .inl (opC_mono hBC (fun B' C' a' _ hBC' h3 => ih (listed.setIfInBounds j true) B' C' a' hBC' hfree' (ready_mono hr (Ne.symm hji)) h3.1 ?_) h2)
      rw [Array.setIfInBounds_comm _ _ hji]
      exact h3.2

theorem first_lexE {l : List Oper} {Q : Act → World → Prop} (hsel : Region.noSelect l.toArray = true) {B C : World → Prop} (hBC : ∀ x, C x → B x) {K : Act → Prop} {g : Nat} :
    ∀ (s : List Nat) (listed : Array Bool) (a : Act), (firstB md l listed s).1 = true →
      (∀ a', K a' → anyE P md l.toArray Q g (firstB md l listed s).2 B C a') → wpQuiet P l.toArray B K (opsAt l s) a → anyE P md l.toArray Q (s.length + g) listed B C a
  | [], listed, a, _, hK, h => by
    rw [List.length_nil, Nat.zero_add]
    exact hK a h
  | i :: s, listed, a, hB, hK, h => by
    have hB' := hB
    unfold firstB at hB hK
    dsimp only at hB hK
    simp only [Bool.and_eq_true] at hB
    obtain ⟨⟨⟨h1, h2⟩, h3⟩, h4⟩ := hB
    cases ho : l[i]? with
    | none => rw [ho] at h3; cases h3
    | some o =>
      rw [ho] at h3
      have hoa : l.toArray[i]? = some o := by simpa using ho
      have e : opsAt l (i :: s) = o :: opsAt l s := by unfold opsAt; rw [List.filterMap_cons]; simp [ho]
      rw [e] at h
      rw [List.length_cons, Nat.succ_add]
      have hlex : ∃ v, LeavesV P l.toArray B o v a ∧ wpQuiet P l.toArray B K (opsAt l s) (a.put o.dst v) := by
        change (if Region.wanted o (yielded l.toArray a.tmps) then o.quiet P a B (wpQuiet P l.toArray B K (opsAt l s)) else wpQuiet P l.toArray B K (opsAt l s) (a.put o.dst undef)) at h
        by_cases hw : Region.wanted o (yielded l.toArray a.tmps) = true
        · rw [if_pos hw] at h
          obtain ⟨v, hv, hk⟩ := h
          exact ⟨v, .inl ⟨hw, looks_of_quiet (by simpa using h3) hv⟩, hk⟩
        · rw [if_neg hw] at h
          exact ⟨undef, .inr ⟨by simpa using hw, rfl⟩, h⟩
      obtain ⟨v, hv, hk⟩ := hlex
      exact anyE_first hoa (Region.noSelect_spec hsel) _ listed B C a hBC (Region.free_spec hoa h2) (by simpa using h1) hv
        (first_lexE hsel hBC s (listed.setIfInBounds i true) _ h4 hK hk)

/-- As Seq, with a last operation that waits for all the others: behind it nothing is looked at. -/
def SeqE (P : Program) (l : List Oper) (Q : Act → World → Prop) (t : List Nat) (c : Nat) : List (List Nat × Nat) → (World → Prop) → (World → Prop) → Act → Prop
  | [], B, C, a => wpQuiet P l.toArray (fun w' => ∃ x : In B, w' = x.w) (fun a' => ∃ o, l[c]? = some o ∧ o.guard = none ∧ ∀ w, C w → o.wp P a' w Q NoExit) (opsAt l t) a
  | (s, c') :: rest, B, C, a => wpQuiet P l.toArray (fun w' => ∃ x : In B, w' = x.w) (fun a' => ∃ o, l[c']? = some o ∧ o.guard = none ∧ Turns P o a' B C (SeqE P l Q t c rest)) (opsAt l s) a
def waitsE (md : Region.Mode) (l : List Oper) (c : Nat) : Bool :=
  match l[c]? with
  | none => false
  | some o => (List.range l.length).all fun k => k == c || o.after.toList.any fun e => Region.binds md e && e.on == k
def seqOkE (md : Region.Mode) (l : List Oper) (t : List Nat) (c : Nat) : List (List Nat × Nat) → Array Bool → Bool
  | [], listed => match firstB md l listed t with
    | (b, k) => b && (Region.ready md l.toArray k == [c]) && waitsE md l c && (Region.ready md l.toArray (k.setIfInBounds c true)).isEmpty
  | (s, c') :: rest, listed => match firstB md l listed s with
    | (b, k) => b && (Region.ready md l.toArray k == [c']) && seqOkE md l t c rest (k.setIfInBounds c' true)
def seqLenE (t : List Nat) : List (List Nat × Nat) → Nat
  | [] => t.length + 1
  | (s, _) :: rest => s.length + (seqLenE t rest + 1)
theorem waitsE_spec {l : List Oper} {c : Nat} {o : Oper} (ho : l[c]? = some o) (h : waitsE md l c = true) : ∀ k, k < l.toArray.size → k ≠ c → ∃ e ∈ o.after, Region.binds md e = true ∧ e.on = k := by
  intro k hk hne
  unfold waitsE at h
  rw [ho] at h
  dsimp only at h
  rw [List.all_eq_true] at h
  have h1 := h k (List.mem_range.2 (by simpa using hk))
  rw [Bool.or_eq_true] at h1
  rcases h1 with e | e
  · exact absurd (by simpa using e) hne
  · rw [List.any_eq_true] at e
    obtain ⟨x, hx, hb⟩ := e
    rw [Bool.and_eq_true] at hb
    exact ⟨x, by simpa using hx, hb.1, by simpa using hb.2⟩
theorem seq_anyE {l : List Oper} {Q : Act → World → Prop} {t : List Nat} {c : Nat} (hsel : Region.noSelect l.toArray = true) :
    ∀ (segs : List (List Nat × Nat)) (listed : Array Bool) (B C : World → Prop) (a : Act), (∀ x, C x → B x) → seqOkE md l t c segs listed = true → SeqE P l Q t c segs B C a → anyE P md l.toArray Q (seqLenE t segs) listed B C a
  | [], listed, B, C, a, hBC, hB, h => by
    unfold seqOkE at hB
    dsimp only at hB
    simp only [Bool.and_eq_true, beq_iff_eq, List.isEmpty_iff] at hB
    obtain ⟨⟨⟨h1, h2⟩, h3⟩, h4⟩ := hB
    unfold SeqE at h
    rw [cls_eq] at h
    refine first_lexE (g := 1) hsel hBC t listed a h1 (fun a' ⟨o, ho, hg, ht⟩ => ?_) h
    refine ⟨fun h0 => (by rw [h2] at h0; cases h0), fun i hi => ?_⟩
    rw [h2] at hi
    obtain rfl : i = c := by simpa using hi
    exact .inr ⟨o, by simpa using ho, hg, waitsE_spec ho h3, h4, ht⟩
  | (s, c') :: rest, listed, B, C, a, hBC, hB, h => by
    unfold seqOkE at hB
    dsimp only at hB
    simp only [Bool.and_eq_true, beq_iff_eq] at hB
    obtain ⟨⟨h1, h2⟩, h3⟩ := hB
    unfold SeqE at h
    rw [cls_eq] at h
    refine first_lexE (g := seqLenE t rest + 1) hsel hBC s listed a h1 (fun a' ⟨o, ho, hg, ht⟩ => ?_) h
    refine ⟨fun h0 => (by rw [h2] at h0; cases h0), fun i hi => ?_⟩
    rw [h2] at hi
    obtain rfl : i = c' := by simpa using hi
    refine .inl ?_
    unfold opC
    have hoa : l.toArray[i]? = some o := by simpa using ho
    simp only [hoa]
    have hw : Region.wanted o (yielded l.toArray a'.tmps) = true := by unfold Region.wanted; rw [hg]
    simp only [hw, if_true]
    exact .inr (Turns.mono (fun B' C' a'' _ hBC' hk => seq_anyE hsel rest _ B' C' a'' hBC' h3 hk) ht)
end

/-- The rule: stretches and turning operations as in wp_region_seq, then the stretch t, then the operation c that waits for all the others. -/
theorem wp_region_end {P : Program} {l : List Oper} {id : Nat} {Q : Exit → Act → World → Prop} {a : Act} {W : World} (B C : World → Prop) (segs : List (List Nat × Nat)) (t : List Nat) (c : Nat)
    (hm : P.follows .mixedOrders = true) (hB : (Region.noSelect l.toArray && seqOkE .any l t c segs (Array.replicate l.length false) && (seqLenE t segs == l.length)) = true) (hBC : ∀ x, C x → B x) (hC : ∀ n, C { W with drawn := n })
    (h : SeqE P l (fun a' w' => Q .normal a' w') t c segs B C a) : (Code.region id l.toArray true).wp P Q a W := by
  simp only [Bool.and_eq_true, beq_iff_eq] at hB
  obtain ⟨⟨h1, h2⟩, h3⟩ := hB
  refine wp_region_any hm ?_
  have := any_of_anyE (Q' := Q) (fun _ _ hq => hq) _ _ B C a _ hBC (hC (W.drawn + 1)) (seq_anyE h1 segs _ B C a hBC h2 h)
  rw [h3] at this
  simpa using this
/-- An operation of a list, alone. -/
def OnlyN (Z : Act → World → Prop) : Exit → Act → World → Prop := fun e a w => e = .normal ∧ Z a w
theorem wp_of_list {P : Program} {ops : Array Oper} {o : Oper} {a : Act} {w : World} {Z : Act → World → Prop} (hg : o.guard = none) (h : wpList P ops (OnlyN Z) [o] a w) : o.wp P a w Z NoExit := by
  have hw : Region.wanted o (yielded ops a.tmps) = true := by simp [Region.wanted, hg]
  unfold wpList at h
  rw [if_pos hw] at h
  rcases h with h | ⟨_, a', w', h'⟩
  · unfold Oper.wp at *
    generalize (execOp a.eval o).run P w = r at *
    cases r with
    | ok n w' =>
      cases n <;> simp only [Oper.upon] at h ⊢ <;>
        first
          | exact h.2
          | exact Calls.mono h (fun e w'' he => by
              cases e with
              | returned v => exact he.2
              | panicked c => cases he.1
              | outgrown => obtain ⟨_, _, h'⟩ := he; cases h'.1)
          | exact Rows.mono h (fun _ _ he => he.2)
    | halt x w' =>
      cases x <;> simp only [Oper.upon] at h ⊢
      cases h.1
  · cases h'.1

end Go.Proofs.Ytmkmaeblnnfheaa
/- The program's SendNext: what fails. -/
namespace Go.Proofs.Ytmkmaeblnnfheaa
open Go.RowKit
attribute [local irreducible] Go.wpQuiet

set_option linter.unusedVariables false in
set_option maxRecDepth 100000 in
set_option maxHeartbeats 40000000 in
theorem snext_i_bad (d : ByteArray) (f : Bool) (l n : Int) (LA LB : List Rg) (A : Option Addr) (ca : Nat) (B : Option Addr) (cb : Nat) (k : Int) (w : World) (hA : RngAt w A LA.length LA) (hB : RngAt w B LB.length LB) (eA : A = none → ca = 0) (eB : B = none → cb = 0) (hn : LA.length ≤ 2000000) (hn' : LB.length ≤ 2000000) (HV : Hid (okS ⟨d, f, l, n, LA, LB⟩ = false)) :
    Calls Try.prog 23 #[.agg #[.string d, .bool f, .int .i64 l, .int .i64 n, .slice A LA.length ca, .slice B LB.length cb], .int .i64 k] w (GotNext w (sd0, pt0, false)) := by
  have z := ((Own6.new (d := d) (f := f) (l := l) (n := n) (A := A) (na := LA.length) (ca := ca) (B := B) (nb := LB.length) (cb := cb) w).alloc (.cells #[.string (⟨#[]⟩ : ByteArray), .bool false, .int .i64 0, .int .i64 0, .slice none 0 0, .slice none 0 0] 25)).alloc (.cells #[.int .i64 0, .string (⟨#[]⟩ : ByteArray), .bool false] 27)
  have r := (Own6.new (d := (⟨#[]⟩ : ByteArray)) (f := false) (l := 0) (n := 0) (A := none) (na := 0) (ca := 0) (B := none) (nb := 0) (cb := 0) (w.alloc (.cells #[.string d, .bool f, .int .i64 l, .int .i64 n, .slice A LA.length ca, .slice B LB.length cb] 25))).alloc (.cells #[.int .i64 0, .string (⟨#[]⟩ : ByteArray), .bool false] 27)
  have q := Own3.new ((w.alloc (.cells #[.string d, .bool f, .int .i64 l, .int .i64 n, .slice A LA.length ca, .slice B LB.length cb] 25)).alloc (.cells #[.string (⟨#[]⟩ : ByteArray), .bool false, .int .i64 0, .int .i64 0, .slice none 0 0, .slice none 0 0] 25)) 0 (⟨#[]⟩ : ByteArray) false
  rw [show (w.alloc (.cells #[.string d, .bool f, .int .i64 l, .int .i64 n, .slice A LA.length ca, .slice B LB.length cb] 25)).heap.size = w.heap.size + 1 from by simp] at r
  rw [show ((w.alloc (.cells #[.string d, .bool f, .int .i64 l, .int .i64 n, .slice A LA.length ca, .slice B LB.length cb] 25)).alloc (.cells #[.string (⟨#[]⟩ : ByteArray), .bool false, .int .i64 0, .int .i64 0, .slice none 0 0, .slice none 0 0] 25)).heap.size = w.heap.size + 1 + 1 from by simp] at q
  have hW0 : Below w.heap.size w _ := (((Below.refl _ w).alloc (Nat.le_refl _) (.cells #[.string d, .bool f, .int .i64 l, .int .i64 n, .slice A LA.length ca, .slice B LB.length cb] 25)).alloc (by simp) (.cells #[.string (⟨#[]⟩ : ByteArray), .bool false, .int .i64 0, .int .i64 0, .slice none 0 0, .slice none 0 0] 25)).alloc (by simp; omega) (.cells #[.int .i64 0, .string (⟨#[]⟩ : ByteArray), .bool false] 27)
  have hsz : (((w.alloc (.cells #[.string d, .bool f, .int .i64 l, .int .i64 n, .slice A LA.length ca, .slice B LB.length cb] 25)).alloc (.cells #[.string (⟨#[]⟩ : ByteArray), .bool false, .int .i64 0, .int .i64 0, .slice none 0 0, .slice none 0 0] 25)).alloc (.cells #[.int .i64 0, .string (⟨#[]⟩ : ByteArray), .bool false] 27)).heap.size = w.heap.size + 1 + 1 + 1 := by simp
  go_enter Try.func23, Try.ntmps23
  go_wp2_with (first
    | (go_at_call 19; (with_reducible refine (sv_v_i HV.out _ (hA.below hW0) (hB.below hW0) hn hn').mono ?_); rintro e w1 ⟨rfl, hb1⟩; have z1 := z.under hb1 (by omega); have r1 := r.under hb1 (by omega); have q1 := q.under hb1 (by omega); have hw1 := hW0.trans (hb1.mono hW0.size); have hs1 : w.heap.size + 1 + 1 + 1 ≤ w1.heap.size := (by have := hb1.size; omega); have HZ := hid_of z1; have HR := hid_of r1; have HQ := hid_of q1; obtain ⟨⟨z0, z1, z2, z3, z4, z5⟩, zf⟩ := z1; obtain ⟨⟨r0, r1, r2, r3, r4, r5⟩, rf⟩ := r1; obtain ⟨⟨q0, q1, q2⟩, qf⟩ := q1; clear z r q hb1)
    | (go_at_call 55; (with_reducible refine (within_v HC.out _).mono ?_); rintro e w9 ⟨rfl, rfl⟩))
  try simp only [Exit.inBlock, Exit.then]
  refine bodyPost_ret (results_spb rfl rfl rfl rfl ((((HR.out.setAll ⟨#[]⟩ false 0 0 none 0 0 none 0 0).other (by dsimp only; omega) _).other (by dsimp only; omega) _).other (by dsimp only; omega) _) (((((((HQ.out.other (by dsimp only; omega) _).other (by dsimp only; omega) _).other (by dsimp only; omega) _).other (by dsimp only; omega) _).other (by dsimp only; omega) _).other (by dsimp only; omega) _).setAll 0 ⟨#[]⟩ false)) rfl ?_
  refine ⟨⟨_, rfl, got_zero rfl⟩, ?_⟩
  repeat refine Below.setCell ?_ (by dsimp only; omega) _
  exact hw1

set_option linter.unusedVariables false in
set_option maxRecDepth 100000 in
set_option maxHeartbeats 40000000 in
theorem snext_i_size (d : ByteArray) (f : Bool) (l n : Int) (LA LB : List Rg) (A : Option Addr) (ca : Nat) (B : Option Addr) (cb : Nat) (k : Int) (w : World) (hA : RngAt w A LA.length LA) (hB : RngAt w B LB.length LB) (eA : A = none → ca = 0) (eB : B = none → cb = 0) (hn : LA.length ≤ 2000000) (hn' : LB.length ≤ 2000000) (HV : Hid (okS ⟨d, f, l, n, LA, LB⟩ = true)) (HC : Hid (decide (1 ≤ k ∧ k ≤ 12) = false)) :
    Calls Try.prog 23 #[.agg #[.string d, .bool f, .int .i64 l, .int .i64 n, .slice A LA.length ca, .slice B LB.length cb], .int .i64 k] w (GotNext w (sd0, pt0, false)) := by
  have z := ((Own6.new (d := d) (f := f) (l := l) (n := n) (A := A) (na := LA.length) (ca := ca) (B := B) (nb := LB.length) (cb := cb) w).alloc (.cells #[.string (⟨#[]⟩ : ByteArray), .bool false, .int .i64 0, .int .i64 0, .slice none 0 0, .slice none 0 0] 25)).alloc (.cells #[.int .i64 0, .string (⟨#[]⟩ : ByteArray), .bool false] 27)
  have r := (Own6.new (d := (⟨#[]⟩ : ByteArray)) (f := false) (l := 0) (n := 0) (A := none) (na := 0) (ca := 0) (B := none) (nb := 0) (cb := 0) (w.alloc (.cells #[.string d, .bool f, .int .i64 l, .int .i64 n, .slice A LA.length ca, .slice B LB.length cb] 25))).alloc (.cells #[.int .i64 0, .string (⟨#[]⟩ : ByteArray), .bool false] 27)
  have q := Own3.new ((w.alloc (.cells #[.string d, .bool f, .int .i64 l, .int .i64 n, .slice A LA.length ca, .slice B LB.length cb] 25)).alloc (.cells #[.string (⟨#[]⟩ : ByteArray), .bool false, .int .i64 0, .int .i64 0, .slice none 0 0, .slice none 0 0] 25)) 0 (⟨#[]⟩ : ByteArray) false
  rw [show (w.alloc (.cells #[.string d, .bool f, .int .i64 l, .int .i64 n, .slice A LA.length ca, .slice B LB.length cb] 25)).heap.size = w.heap.size + 1 from by simp] at r
  rw [show ((w.alloc (.cells #[.string d, .bool f, .int .i64 l, .int .i64 n, .slice A LA.length ca, .slice B LB.length cb] 25)).alloc (.cells #[.string (⟨#[]⟩ : ByteArray), .bool false, .int .i64 0, .int .i64 0, .slice none 0 0, .slice none 0 0] 25)).heap.size = w.heap.size + 1 + 1 from by simp] at q
  have hW0 : Below w.heap.size w _ := (((Below.refl _ w).alloc (Nat.le_refl _) (.cells #[.string d, .bool f, .int .i64 l, .int .i64 n, .slice A LA.length ca, .slice B LB.length cb] 25)).alloc (by simp) (.cells #[.string (⟨#[]⟩ : ByteArray), .bool false, .int .i64 0, .int .i64 0, .slice none 0 0, .slice none 0 0] 25)).alloc (by simp; omega) (.cells #[.int .i64 0, .string (⟨#[]⟩ : ByteArray), .bool false] 27)
  have hsz : (((w.alloc (.cells #[.string d, .bool f, .int .i64 l, .int .i64 n, .slice A LA.length ca, .slice B LB.length cb] 25)).alloc (.cells #[.string (⟨#[]⟩ : ByteArray), .bool false, .int .i64 0, .int .i64 0, .slice none 0 0, .slice none 0 0] 25)).alloc (.cells #[.int .i64 0, .string (⟨#[]⟩ : ByteArray), .bool false] 27)).heap.size = w.heap.size + 1 + 1 + 1 := by simp
  go_enter Try.func23, Try.ntmps23
  go_wp2_with (first
    | (go_at_call 19; (with_reducible refine (sv_v_i HV.out _ (hA.below hW0) (hB.below hW0) hn hn').mono ?_); rintro e w1 ⟨rfl, hb1⟩; have z1 := z.under hb1 (by omega); have r1 := r.under hb1 (by omega); have q1 := q.under hb1 (by omega); have hw1 := hW0.trans (hb1.mono hW0.size); have hs1 : w.heap.size + 1 + 1 + 1 ≤ w1.heap.size := (by have := hb1.size; omega); have HZ := hid_of z1; have HR := hid_of r1; have HQ := hid_of q1; obtain ⟨⟨z0, z1, z2, z3, z4, z5⟩, zf⟩ := z1; obtain ⟨⟨r0, r1, r2, r3, r4, r5⟩, rf⟩ := r1; obtain ⟨⟨q0, q1, q2⟩, qf⟩ := q1; clear z r q hb1)
    | (go_at_call 55; (with_reducible refine (within_v HC.out _).mono ?_); rintro e w9 ⟨rfl, rfl⟩))
  try simp only [Exit.inBlock, Exit.then]
  refine bodyPost_ret (results_spb rfl rfl rfl rfl ((((HR.out.setAll ⟨#[]⟩ false 0 0 none 0 0 none 0 0).other (by dsimp only; omega) _).other (by dsimp only; omega) _).other (by dsimp only; omega) _) (((((((HQ.out.other (by dsimp only; omega) _).other (by dsimp only; omega) _).other (by dsimp only; omega) _).other (by dsimp only; omega) _).other (by dsimp only; omega) _).other (by dsimp only; omega) _).setAll 0 ⟨#[]⟩ false)) rfl ?_
  refine ⟨⟨_, rfl, got_zero rfl⟩, ?_⟩
  repeat refine Below.setCell ?_ (by dsimp only; omega) _
  exact hw1

end Go.Proofs.Ytmkmaeblnnfheaa
/- A region that draws its order and whose last operations, each waiting for all ahead of it, may write: what stands ahead of them only reads or adds to the memory, and is walked once, in the order of the text. -/
namespace Go.Proofs.Ytmkmaeblnnfheaa
open Go.RowKit

section
variable {P : Program} {ops : Array Oper} {md : Region.Mode} {C : World → Prop}

/-- Whatever order is picked, the next f operations are of the first n, each quiet; then L stands. -/
def HeadFirst (P : Program) (md : Region.Mode) (ops : Array Oper) (C : World → Prop) (n : Nat) (L : Array Bool → Act → Prop) : Nat → Array Bool → Act → Prop
  | 0, done, a => L done a
  | f + 1, done, a => Region.ready md ops done ≠ [] ∧ ∀ i ∈ Region.ready md ops done, i < n ∧ qOp P ops C i (HeadFirst P md ops C n L f (done.setIfInBounds i true)) a

theorem any_of_head {n g : Nat} {L : Array Bool → Act → Prop} {Q : Exit → Act → World → Prop} (hL : ∀ done a w, C w → L done a → wpAny P md ops Q g done a w) (f : Nat) :
    ∀ (done : Array Bool) (a : Act) (w : World), C w → HeadFirst P md ops C n L f done a → wpAny P md ops Q (f + g) done a w := by
  induction f with
  | zero =>
    intro done a w hw h
    rw [Nat.zero_add]
    exact hL done a w hw h
  | succ f ih =>
    intro done a w hw h
    rw [Nat.succ_add]
    refine ⟨fun h0 => absurd h0 h.1, fun i hi => ?_⟩
    exact wpOp_of_qOp hw (fun a' w' hw' k => ih _ a' w' hw' k) (h.2 i hi).2

/-- An operation of the head that may come now may as well come first. -/
theorem head_now {n i : Nat} {x : Oper} {v : Value} {L : Array Bool → Act → Prop} (hi : ops[i]? = some x) (hsel : ∀ (j : Nat) (o : Oper) cs b, ops[j]? = some o → o.op ≠ .select cs b)
    (hs : Region.sinkB md ops n = true) (hc : Region.chainB md ops n = true) (hn : n < ops.size) (hin : i < n) (hL : ∀ done a, L done a → ∀ j ∈ Region.ready md ops done, n ≤ j) (f : Nat) :
    ∀ (done : Array Bool) (a : Act), HeadInv md ops n done →
      (∀ j y, ops[j]? = some y → j ≠ i → done.getD j true = false → (∀ e ∈ y.after, Region.binds md e = true → e.on ≠ i) → x.apart ops y = true) →
      i ∈ Region.ready md ops done → YieldsIn P ops C x v a →
      HeadFirst P md ops C n L f (done.setIfInBounds i true) (a.put x.dst v) → HeadFirst P md ops C n L (f + 1) done a := by
  induction f with
  | zero =>
    intro done a inv _ hr hy H
    have hun := (mem_ready.1 hr).1
    refine ⟨fun h => (by rw [h] at hr; cases hr), fun j hj => ?_⟩
    have hjn : j < n := Nat.lt_of_not_le fun h => tail_waits hs hc hn inv _ i rfl hin hun j h hj
    refine ⟨hjn, ?_⟩
    by_cases e : j = i
    · subst e
      exact hy.qOp hi H
    · have := hL _ _ H j (ready_mono hj e)
      omega
  | succ f ih =>
    intro done a inv hfree hr hy H
    have hun := (mem_ready.1 hr).1
    refine ⟨fun h => (by rw [h] at hr; cases hr), fun j hj => ?_⟩
    have hjn : j < n := Nat.lt_of_not_le fun h => tail_waits hs hc hn inv _ i rfl hin hun j h hj
    refine ⟨hjn, ?_⟩
    by_cases e : j = i
    · subst e
      exact hy.qOp hi H
    · obtain ⟨hjun, y, hoy, hall⟩ := mem_ready.1 hj
      have apart : x.apart ops y = true := hfree j y hoy e hjun fun d hd hb he => by
        have h1 := hall d hd hb
        rw [he, getD_both hun] at h1
        cases h1
      have h2 := qOp_put hoy apart (fun cs b => hsel i x cs b hi) (fun cs b => hsel j y cs b hoy) hy (H.2 j (ready_mono hj e)).2
      refine qOp_mono (fun a' k => ih (done.setIfInBounds j true) a' (inv.set hj hjn) (fun q z hq hqi hqun hno => hfree q z hq hqi ?_ hno) (ready_mono hr (Ne.symm e)) k.1 ?_) h2
      · by_cases hjq : j = q
        · subst hjq
          exact hjun
        · rw [getD_set_ne true hjq] at hqun
          exact hqun
      · rw [Array.setIfInBounds_comm _ _ e]
        exact k.2

theorem head_lex {n g : Nat} {K : Act → Prop} (hsel : Region.noSelect ops = true) (hs : Region.sinkB md ops n = true) (hc : Region.chainB md ops n = true) (hn : n < ops.size) :
    ∀ (l : List Oper) (k : Nat) (done : Array Bool) (a : Act), (∀ j, j < l.length → l[j]? = ops[k + j]?) → k + l.length = n → HeadInv md ops n done →
    Region.lexHead md ops g l.length k done = true → wpQuiet P ops C K l a →
    HeadFirst P md ops C n (fun done' a' => Region.seqB md ops g n done' = true ∧ K a') l.length done a := by
  intro l
  induction l with
  | nil =>
    intro k done a _ hk _ hB h
    obtain rfl : k = n := by simpa using hk
    exact ⟨by simpa [Region.lexHead] using hB, h⟩
  | cons o l ih =>
    intro k done a hl hk inv hB h
    have h0 : ops[k]? = some o := by simpa using (hl 0 (by simp)).symm
    simp only [List.length_cons, Region.lexHead, Bool.and_eq_true] at hB
    obtain ⟨⟨hr, hf⟩, hB'⟩ := hB
    simp only [List.length_cons] at hk
    have hr' : k ∈ Region.ready md ops done := by simpa using hr
    obtain ⟨v, hy, hK⟩ := yieldsIn_of_qOp (K := wpQuiet P ops C K l) h0 (by unfold qOp; simp only [h0]; exact h)
    refine head_now h0 (Region.noSelect_spec hsel) hs hc hn (by omega) (fun done' a' hL => seqB_ready hL.1) l.length done a inv (Region.free_spec h0 hf) hr' hy ?_
    exact ih (k + 1) _ _ (fun j hj => by have := hl (j + 1) (by simp; omega); simpa [Nat.add_assoc, Nat.add_comm 1 j] using this) (by omega) (inv.set hr' (by omega)) hB' hK

theorem wp_region_quiet_tail {id : Nat} {Q : Exit → Act → World → Prop} {a : Act} {w : World} {l : List Oper} (n : Nat) (hm : P.follows .mixedOrders = true) (hB : Region.lexTailB .any l.toArray n = true) (hC : C { w with drawn := w.drawn + 1 })
    (h : wpQuiet P l.toArray C (fun a' => ∀ w', C w' → wpList P l.toArray Q (l.drop n) a' w') (l.take n) a) : (Code.region id l.toArray true).wp P Q a w := by
  simp only [Region.lexTailB, Bool.and_eq_true, decide_eq_true_eq] at hB
  obtain ⟨⟨⟨⟨hsel, hn⟩, hs⟩, hc⟩, hlex⟩ := hB
  have hn' : n < l.length := by simpa using hn
  have htl : (l.take n).length = n := by simp; omega
  have hdl : (l.drop n).length = l.toArray.size - n := by simp
  have inv : HeadInv .any l.toArray n (Array.replicate l.toArray.size false) :=
    ⟨by simp, fun j oj _ hl => (by rw [getD_replicate_false] at hl; cases hl), fun t _ ht => getD_in (by simpa using ht) (getD_replicate_false _ _)⟩
  have H := head_lex (md := .any) (g := l.toArray.size - n) hsel hs hc hn (l.take n) 0 _ a (fun j hj => by
    rw [htl] at hj
    simp [hj]) (by simpa using htl) inv (by rw [htl]; exact hlex) h
  refine wp_region_any hm ?_
  have H2 := any_of_head (Q := Q) (g := l.toArray.size - n) (fun done a' w' hw' hL => by
    have k := wpAny_of_seq (md := .any) (Q' := Q) (l.drop n) n done a' w' (fun j => by simp [List.getElem?_drop]) (by rw [hdl]; exact hL.1) (hL.2 w' hw')
    rwa [hdl] at k) _ _ _ _ hC H
  rw [htl, show n + (l.toArray.size - n) = l.toArray.size by omega] at H2
  exact H2
end

theorem wp_region_up_tail {P : Program} {l : List Oper} {id : Nat} {Q : Exit → Act → World → Prop} {a : Act} {W : World} (n : Nat) (hm : P.follows .mixedOrders = true) (hB : Region.lexTailB .any l.toArray n = true)
    (h : wpQuiet P l.toArray (fun w' => ∃ x : Up W, w' = x.w) (fun a' => ∀ w', Below W.heap.size W w' → wpList P l.toArray Q (l.drop n) a' w') (l.take n) a) : (Code.region id l.toArray true).wp P Q a W := by
  refine wp_region_quiet_tail (C := fun w' => ∃ x : Up W, w' = x.w) n hm hB ⟨⟨{ W with drawn := W.drawn + 1 }, ⟨rfl, rfl, rfl, Nat.le_refl _, fun _ _ => rfl⟩⟩, rfl⟩ ?_
  have e : (fun a' => ∀ w', (∃ x : Up W, w' = x.w) → wpList P l.toArray Q (l.drop n) a' w') = (fun a' => ∀ w', Below W.heap.size W w' → wpList P l.toArray Q (l.drop n) a' w') := by
    funext a'
    refine propext ⟨fun k w' hw => k w' ⟨⟨w', hw⟩, rfl⟩, fun k w' hw => ?_⟩
    obtain ⟨x, rfl⟩ := hw
    exact k _ x.b
  rw [e]
  exact h

end Go.Proofs.Ytmkmaeblnnfheaa
/- What stands while a stream and a part are handed back. -/
namespace Go.Proofs.Ytmkmaeblnnfheaa
open Go.RowKit

structure Ret2 (w : World) (ob pb Sz LoA HiA LoB HiB : Nat) (d : ByteArray) (f : Bool) (l n : Int) (LA LB : List Rg) (A : Option Addr) (ca : Nat) (B : Option Addr) (cb : Nat) (o : Int) (dp : ByteArray) (fp : Bool) (w' : World) : Prop where
  x : Own6 w' ob d f l n A LA.length ca B LB.length cb
  p : Own3 w' pb o dp fp
  r : ∃ d f l n A na ca B nb cb, Own6 w' (w.heap.size + 1) d f l n A na ca B nb cb
  q : ∃ o d f, Own3 w' (w.heap.size + 1 + 1) o d f
  a : RngIn w' LoA HiA A LA.length ca LA
  b : RngIn w' LoB HiB B LB.length cb LB
  bel : Below w.heap.size w w'
  sz : Sz ≤ w'.heap.size
section
variable {w w' : World} {ob pb Sz LoA HiA LoB HiB : Nat} {d : ByteArray} {f : Bool} {l n : Int} {LA LB : List Rg} {A : Option Addr} {ca : Nat} {B : Option Addr} {cb : Nat} {o : Int} {dp : ByteArray} {fp : Bool}
theorem Ret2.drew (h : Ret2 w ob pb Sz LoA HiA LoB HiB d f l n LA LB A ca B cb o dp fp w') (m : Nat) : Ret2 w ob pb Sz LoA HiA LoB HiB d f l n LA LB A ca B cb o dp fp { w' with drawn := m } :=
  ⟨h.x, h.p, h.r, h.q, h.a, h.b, ⟨h.bel.os, h.bel.tape, h.bel.output, h.bel.size, h.bel.block⟩, h.sz⟩
theorem Ret2.store (h : Ret2 w ob pb Sz LoA HiA LoB HiB d f l n LA LB A ca B cb o dp fp w') (h1 : w.heap.size + 1 + 1 < LoA ∧ w.heap.size + 1 + 1 < LoB) (h2 : w.heap.size + 1 + 1 < ob ∧ w.heap.size + 1 + 1 < pb)
    (d' : ByteArray) (f' : Bool) (l' n' : Int) (A' : Option Addr) (na' ca' : Nat) (B' : Option Addr) (nb' cb' : Nat) :
    Ret2 w ob pb Sz LoA HiA LoB HiB d f l n LA LB A ca B cb o dp fp ((((((w'.setCell ⟨w.heap.size + 1, 0, none⟩ (.string d')).setCell ⟨w.heap.size + 1, 1, none⟩ (.bool f')).setCell ⟨w.heap.size + 1, 2, none⟩ (.int .i64 l')).setCell ⟨w.heap.size + 1, 3, none⟩ (.int .i64 n')).setCell ⟨w.heap.size + 1, 4, none⟩ (.slice A' na' ca')).setCell ⟨w.heap.size + 1, 5, none⟩ (.slice B' nb' cb')) := by
  obtain ⟨x1, x2, x3, x4, x5, x6, x7, x8, x9, x10, xr⟩ := h.r
  obtain ⟨y1, y2, y3, yq⟩ := h.q
  refine ⟨?_, ?_, ⟨_, _, _, _, _, _, _, _, _, _, xr.setAll d' f' l' n' A' na' ca' B' nb' cb'⟩, ⟨y1, y2, y3, ?_⟩, ?_, ?_, ?_, by simpa [World.setCell] using h.sz⟩
  · repeat refine Own6.other ?_ (by dsimp only; omega) _
    exact h.x
  · repeat refine Own3.other ?_ (by dsimp only; omega) _
    exact h.p
  · repeat refine Own3.other ?_ (by dsimp only; omega) _
    exact yq
  · repeat refine RngIn.setLow ?_ (by dsimp only; omega) _
    exact h.a
  · repeat refine RngIn.setLow ?_ (by dsimp only; omega) _
    exact h.b
  · repeat refine Below.setCell ?_ (by dsimp only; omega) _
    exact h.bel
theorem Ret2.store3 (h : Ret2 w ob pb Sz LoA HiA LoB HiB d f l n LA LB A ca B cb o dp fp w') (h1 : w.heap.size + 1 + 1 < LoA ∧ w.heap.size + 1 + 1 < LoB) (h2 : w.heap.size + 1 + 1 < ob ∧ w.heap.size + 1 + 1 < pb)
    (o' : Int) (d' : ByteArray) (f' : Bool) :
    Ret2 w ob pb Sz LoA HiA LoB HiB d f l n LA LB A ca B cb o dp fp (((w'.setCell ⟨w.heap.size + 1 + 1, 0, none⟩ (.int .i64 o')).setCell ⟨w.heap.size + 1 + 1, 1, none⟩ (.string d')).setCell ⟨w.heap.size + 1 + 1, 2, none⟩ (.bool f')) := by
  obtain ⟨x1, x2, x3, x4, x5, x6, x7, x8, x9, x10, xr⟩ := h.r
  obtain ⟨y1, y2, y3, yq⟩ := h.q
  refine ⟨?_, ?_, ⟨x1, x2, x3, x4, x5, x6, x7, x8, x9, x10, ?_⟩, ⟨_, _, _, yq.setAll o' d' f'⟩, ?_, ?_, ?_, by simpa [World.setCell] using h.sz⟩
  · repeat refine Own6.other ?_ (by dsimp only; omega) _
    exact h.x
  · repeat refine Own3.other ?_ (by dsimp only; omega) _
    exact h.p
  · repeat refine Own6.other ?_ (by dsimp only; omega) _
    exact xr
  · repeat refine RngIn.setLow ?_ (by dsimp only; omega) _
    exact h.a
  · repeat refine RngIn.setLow ?_ (by dsimp only; omega) _
    exact h.b
  · repeat refine Below.setCell ?_ (by dsimp only; omega) _
    exact h.bel
end

end Go.Proofs.Ytmkmaeblnnfheaa
/- The reference's SendNext. -/
namespace Go.Proofs.Ytmkmaeblnnfheaa
open Go.RowKit
attribute [local irreducible] Go.wpQuiet

set_option linter.unusedVariables false in
set_option maxRecDepth 100000 in
set_option maxHeartbeats 4000000 in
theorem snext_s_bad (d : ByteArray) (f : Bool) (l n : Int) (LA LB : List Rg) (A : Option Addr) (ca : Nat) (B : Option Addr) (cb : Nat) (k : Int) (w : World) (hA : RngAt w A LA.length LA) (hB : RngAt w B LB.length LB) (eA : A = none → ca = 0) (eB : B = none → cb = 0) (hn : LA.length ≤ 2000000) (hn' : LB.length ≤ 2000000) (HV : Hid (okS ⟨d, f, l, n, LA, LB⟩ = false)) :
    Calls Try.prog 35 #[.agg #[.string d, .bool f, .int .i64 l, .int .i64 n, .slice A LA.length ca, .slice B LB.length cb], .int .i64 k] w (GotNext w (sd0, pt0, false)) := by
  have z := ((Own6.new (d := d) (f := f) (l := l) (n := n) (A := A) (na := LA.length) (ca := ca) (B := B) (nb := LB.length) (cb := cb) w).alloc (.cells #[.string (⟨#[]⟩ : ByteArray), .bool false, .int .i64 0, .int .i64 0, .slice none 0 0, .slice none 0 0] 25)).alloc (.cells #[.int .i64 0, .string (⟨#[]⟩ : ByteArray), .bool false] 27)
  have r := (Own6.new (d := (⟨#[]⟩ : ByteArray)) (f := false) (l := 0) (n := 0) (A := none) (na := 0) (ca := 0) (B := none) (nb := 0) (cb := 0) (w.alloc (.cells #[.string d, .bool f, .int .i64 l, .int .i64 n, .slice A LA.length ca, .slice B LB.length cb] 25))).alloc (.cells #[.int .i64 0, .string (⟨#[]⟩ : ByteArray), .bool false] 27)
  have q := Own3.new ((w.alloc (.cells #[.string d, .bool f, .int .i64 l, .int .i64 n, .slice A LA.length ca, .slice B LB.length cb] 25)).alloc (.cells #[.string (⟨#[]⟩ : ByteArray), .bool false, .int .i64 0, .int .i64 0, .slice none 0 0, .slice none 0 0] 25)) 0 (⟨#[]⟩ : ByteArray) false
  rw [show (w.alloc (.cells #[.string d, .bool f, .int .i64 l, .int .i64 n, .slice A LA.length ca, .slice B LB.length cb] 25)).heap.size = w.heap.size + 1 from by simp] at r
  rw [show ((w.alloc (.cells #[.string d, .bool f, .int .i64 l, .int .i64 n, .slice A LA.length ca, .slice B LB.length cb] 25)).alloc (.cells #[.string (⟨#[]⟩ : ByteArray), .bool false, .int .i64 0, .int .i64 0, .slice none 0 0, .slice none 0 0] 25)).heap.size = w.heap.size + 1 + 1 from by simp] at q
  have hW0 : Below w.heap.size w _ := (((Below.refl _ w).alloc (Nat.le_refl _) (.cells #[.string d, .bool f, .int .i64 l, .int .i64 n, .slice A LA.length ca, .slice B LB.length cb] 25)).alloc (by simp) (.cells #[.string (⟨#[]⟩ : ByteArray), .bool false, .int .i64 0, .int .i64 0, .slice none 0 0, .slice none 0 0] 25)).alloc (by simp; omega) (.cells #[.int .i64 0, .string (⟨#[]⟩ : ByteArray), .bool false] 27)
  have hsz : (((w.alloc (.cells #[.string d, .bool f, .int .i64 l, .int .i64 n, .slice A LA.length ca, .slice B LB.length cb] 25)).alloc (.cells #[.string (⟨#[]⟩ : ByteArray), .bool false, .int .i64 0, .int .i64 0, .slice none 0 0, .slice none 0 0] 25)).alloc (.cells #[.int .i64 0, .string (⟨#[]⟩ : ByteArray), .bool false] 27)).heap.size = w.heap.size + 1 + 1 + 1 := by simp
  go_enter Try.func35, Try.ntmps35
  go_wp2_with (first
    | (go_at_call 61; (with_reducible refine (sv_v_s HV.out _ (hA.below hW0) (hB.below hW0) hn hn').mono ?_); rintro e w1 ⟨rfl, hb1⟩; have z1 := z.under hb1 (by omega); have r1 := r.under hb1 (by omega); have q1 := q.under hb1 (by omega); have hw1 := hW0.trans (hb1.mono hW0.size); have hs1 : w.heap.size + 1 + 1 + 1 ≤ w1.heap.size := (by have := hb1.size; omega); have HZ := hid_of z1; have HR := hid_of r1; have HQ := hid_of q1; obtain ⟨⟨z0, z1, z2, z3, z4, z5⟩, zf⟩ := z1; obtain ⟨⟨r0, r1, r2, r3, r4, r5⟩, rf⟩ := r1; obtain ⟨⟨q0, q1, q2⟩, qf⟩ := q1; clear z r q hb1)
    | (go_at_call 70; (with_reducible refine (l6In_v HC.out _).mono ?_); rintro e w9 ⟨rfl, rfl⟩))
  try simp only [Exit.inBlock, Exit.then]
  refine bodyPost_ret (results_spb rfl rfl rfl rfl ((((HR.out.setAll ⟨#[]⟩ false 0 0 none 0 0 none 0 0).other (by dsimp only; omega) _).other (by dsimp only; omega) _).other (by dsimp only; omega) _) (((((((HQ.out.other (by dsimp only; omega) _).other (by dsimp only; omega) _).other (by dsimp only; omega) _).other (by dsimp only; omega) _).other (by dsimp only; omega) _).other (by dsimp only; omega) _).setAll 0 ⟨#[]⟩ false)) rfl ?_
  refine ⟨⟨_, rfl, got_zero rfl⟩, ?_⟩
  repeat refine Below.setCell ?_ (by dsimp only; omega) _
  exact hw1

set_option linter.unusedVariables false in
set_option maxRecDepth 100000 in
set_option maxHeartbeats 4000000 in
theorem snext_s_size (d : ByteArray) (f : Bool) (l n : Int) (LA LB : List Rg) (A : Option Addr) (ca : Nat) (B : Option Addr) (cb : Nat) (k : Int) (w : World) (hA : RngAt w A LA.length LA) (hB : RngAt w B LB.length LB) (eA : A = none → ca = 0) (eB : B = none → cb = 0) (hn : LA.length ≤ 2000000) (hn' : LB.length ≤ 2000000) (HV : Hid (okS ⟨d, f, l, n, LA, LB⟩ = true)) (HC : Hid (decide (1 ≤ k ∧ k ≤ 12) = false)) :
    Calls Try.prog 35 #[.agg #[.string d, .bool f, .int .i64 l, .int .i64 n, .slice A LA.length ca, .slice B LB.length cb], .int .i64 k] w (GotNext w (sd0, pt0, false)) := by
  have z := ((Own6.new (d := d) (f := f) (l := l) (n := n) (A := A) (na := LA.length) (ca := ca) (B := B) (nb := LB.length) (cb := cb) w).alloc (.cells #[.string (⟨#[]⟩ : ByteArray), .bool false, .int .i64 0, .int .i64 0, .slice none 0 0, .slice none 0 0] 25)).alloc (.cells #[.int .i64 0, .string (⟨#[]⟩ : ByteArray), .bool false] 27)
  have r := (Own6.new (d := (⟨#[]⟩ : ByteArray)) (f := false) (l := 0) (n := 0) (A := none) (na := 0) (ca := 0) (B := none) (nb := 0) (cb := 0) (w.alloc (.cells #[.string d, .bool f, .int .i64 l, .int .i64 n, .slice A LA.length ca, .slice B LB.length cb] 25))).alloc (.cells #[.int .i64 0, .string (⟨#[]⟩ : ByteArray), .bool false] 27)
  have q := Own3.new ((w.alloc (.cells #[.string d, .bool f, .int .i64 l, .int .i64 n, .slice A LA.length ca, .slice B LB.length cb] 25)).alloc (.cells #[.string (⟨#[]⟩ : ByteArray), .bool false, .int .i64 0, .int .i64 0, .slice none 0 0, .slice none 0 0] 25)) 0 (⟨#[]⟩ : ByteArray) false
  rw [show (w.alloc (.cells #[.string d, .bool f, .int .i64 l, .int .i64 n, .slice A LA.length ca, .slice B LB.length cb] 25)).heap.size = w.heap.size + 1 from by simp] at r
  rw [show ((w.alloc (.cells #[.string d, .bool f, .int .i64 l, .int .i64 n, .slice A LA.length ca, .slice B LB.length cb] 25)).alloc (.cells #[.string (⟨#[]⟩ : ByteArray), .bool false, .int .i64 0, .int .i64 0, .slice none 0 0, .slice none 0 0] 25)).heap.size = w.heap.size + 1 + 1 from by simp] at q
  have hW0 : Below w.heap.size w _ := (((Below.refl _ w).alloc (Nat.le_refl _) (.cells #[.string d, .bool f, .int .i64 l, .int .i64 n, .slice A LA.length ca, .slice B LB.length cb] 25)).alloc (by simp) (.cells #[.string (⟨#[]⟩ : ByteArray), .bool false, .int .i64 0, .int .i64 0, .slice none 0 0, .slice none 0 0] 25)).alloc (by simp; omega) (.cells #[.int .i64 0, .string (⟨#[]⟩ : ByteArray), .bool false] 27)
  have hsz : (((w.alloc (.cells #[.string d, .bool f, .int .i64 l, .int .i64 n, .slice A LA.length ca, .slice B LB.length cb] 25)).alloc (.cells #[.string (⟨#[]⟩ : ByteArray), .bool false, .int .i64 0, .int .i64 0, .slice none 0 0, .slice none 0 0] 25)).alloc (.cells #[.int .i64 0, .string (⟨#[]⟩ : ByteArray), .bool false] 27)).heap.size = w.heap.size + 1 + 1 + 1 := by simp
  go_enter Try.func35, Try.ntmps35
  go_wp2_with (first
    | (go_at_call 61; (with_reducible refine (sv_v_s HV.out _ (hA.below hW0) (hB.below hW0) hn hn').mono ?_); rintro e w1 ⟨rfl, hb1⟩; have z1 := z.under hb1 (by omega); have r1 := r.under hb1 (by omega); have q1 := q.under hb1 (by omega); have hw1 := hW0.trans (hb1.mono hW0.size); have hs1 : w.heap.size + 1 + 1 + 1 ≤ w1.heap.size := (by have := hb1.size; omega); have HZ := hid_of z1; have HR := hid_of r1; have HQ := hid_of q1; obtain ⟨⟨z0, z1, z2, z3, z4, z5⟩, zf⟩ := z1; obtain ⟨⟨r0, r1, r2, r3, r4, r5⟩, rf⟩ := r1; obtain ⟨⟨q0, q1, q2⟩, qf⟩ := q1; clear z r q hb1)
    | (go_at_call 70; (with_reducible refine (l6In_v HC.out _).mono ?_); rintro e w9 ⟨rfl, rfl⟩))
  try simp only [Exit.inBlock, Exit.then]
  refine bodyPost_ret (results_spb rfl rfl rfl rfl ((((HR.out.setAll ⟨#[]⟩ false 0 0 none 0 0 none 0 0).other (by dsimp only; omega) _).other (by dsimp only; omega) _).other (by dsimp only; omega) _) (((((((HQ.out.other (by dsimp only; omega) _).other (by dsimp only; omega) _).other (by dsimp only; omega) _).other (by dsimp only; omega) _).other (by dsimp only; omega) _).other (by dsimp only; omega) _).setAll 0 ⟨#[]⟩ false)) rfl ?_
  refine ⟨⟨_, rfl, got_zero rfl⟩, ?_⟩
  repeat refine Below.setCell ?_ (by dsimp only; omega) _
  exact hw1

set_option linter.unusedVariables false in
set_option maxRecDepth 100000 in
set_option maxHeartbeats 4000000 in
theorem snext_s_good (d : ByteArray) (f : Bool) (l n : Int) (LA LB : List Rg) (A : Option Addr) (ca : Nat) (B : Option Addr) (cb : Nat) (k : Int) (w : World) (hA : RngAt w A LA.length LA) (hB : RngAt w B LB.length LB) (eA : A = none → ca = 0) (eB : B = none → cb = 0) (hn : LA.length ≤ 2000000) (hn' : LB.length ≤ 2000000) (HV : Hid (okS ⟨d, f, l, n, LA, LB⟩ = true)) (HC : Hid (decide (1 ≤ k ∧ k ≤ 12) = true)) (d1 : ByteArray) (f1 : Bool) (l1 n1 : Int) (LA1 LB1 : List Rg) (o2 : Int) (d2 : ByteArray) (f2 b : Bool) (HX : Hid (next ⟨d, f, l, n, LA, LB⟩ k = (⟨d1, f1, l1, n1, LA1, LB1⟩, ⟨o2, d2, f2⟩, b))) :
    Calls Try.prog 35 #[.agg #[.string d, .bool f, .int .i64 l, .int .i64 n, .slice A LA.length ca, .slice B LB.length cb], .int .i64 k] w (GotNext w (⟨d1, f1, l1, n1, LA1, LB1⟩, ⟨o2, d2, f2⟩, b)) := by
  have hk := of_decide_eq_true HC.out
  have z := ((Own6.new (d := d) (f := f) (l := l) (n := n) (A := A) (na := LA.length) (ca := ca) (B := B) (nb := LB.length) (cb := cb) w).alloc (.cells #[.string (⟨#[]⟩ : ByteArray), .bool false, .int .i64 0, .int .i64 0, .slice none 0 0, .slice none 0 0] 25)).alloc (.cells #[.int .i64 0, .string (⟨#[]⟩ : ByteArray), .bool false] 27)
  have r := (Own6.new (d := (⟨#[]⟩ : ByteArray)) (f := false) (l := 0) (n := 0) (A := none) (na := 0) (ca := 0) (B := none) (nb := 0) (cb := 0) (w.alloc (.cells #[.string d, .bool f, .int .i64 l, .int .i64 n, .slice A LA.length ca, .slice B LB.length cb] 25))).alloc (.cells #[.int .i64 0, .string (⟨#[]⟩ : ByteArray), .bool false] 27)
  have q := Own3.new ((w.alloc (.cells #[.string d, .bool f, .int .i64 l, .int .i64 n, .slice A LA.length ca, .slice B LB.length cb] 25)).alloc (.cells #[.string (⟨#[]⟩ : ByteArray), .bool false, .int .i64 0, .int .i64 0, .slice none 0 0, .slice none 0 0] 25)) 0 (⟨#[]⟩ : ByteArray) false
  rw [show (w.alloc (.cells #[.string d, .bool f, .int .i64 l, .int .i64 n, .slice A LA.length ca, .slice B LB.length cb] 25)).heap.size = w.heap.size + 1 from by simp] at r
  rw [show ((w.alloc (.cells #[.string d, .bool f, .int .i64 l, .int .i64 n, .slice A LA.length ca, .slice B LB.length cb] 25)).alloc (.cells #[.string (⟨#[]⟩ : ByteArray), .bool false, .int .i64 0, .int .i64 0, .slice none 0 0, .slice none 0 0] 25)).heap.size = w.heap.size + 1 + 1 from by simp] at q
  have hW0 : Below w.heap.size w _ := (((Below.refl _ w).alloc (Nat.le_refl _) (.cells #[.string d, .bool f, .int .i64 l, .int .i64 n, .slice A LA.length ca, .slice B LB.length cb] 25)).alloc (by simp) (.cells #[.string (⟨#[]⟩ : ByteArray), .bool false, .int .i64 0, .int .i64 0, .slice none 0 0, .slice none 0 0] 25)).alloc (by simp; omega) (.cells #[.int .i64 0, .string (⟨#[]⟩ : ByteArray), .bool false] 27)
  have hsz : (((w.alloc (.cells #[.string d, .bool f, .int .i64 l, .int .i64 n, .slice A LA.length ca, .slice B LB.length cb] 25)).alloc (.cells #[.string (⟨#[]⟩ : ByteArray), .bool false, .int .i64 0, .int .i64 0, .slice none 0 0, .slice none 0 0] 25)).alloc (.cells #[.int .i64 0, .string (⟨#[]⟩ : ByteArray), .bool false] 27)).heap.size = w.heap.size + 1 + 1 + 1 := by simp
  go_enter Try.func35, Try.ntmps35
  go_wp2_with (first
    | (go_at_call 61; (with_reducible refine (sv_v_s HV.out _ (hA.below hW0) (hB.below hW0) hn hn').mono ?_); rintro e w1 ⟨rfl, hb1⟩; have z1 := z.under hb1 (by omega); have r1 := r.under hb1 (by omega); have q1 := q.under hb1 (by omega); have hw1 := hW0.trans (hb1.mono hW0.size); have hs1 : w.heap.size + 1 + 1 + 1 ≤ w1.heap.size := (by have := hb1.size; omega); have HZ := hid_of z1; have HR := hid_of r1; have HQ := hid_of q1; obtain ⟨⟨z0, z1, z2, z3, z4, z5⟩, zf⟩ := z1; obtain ⟨⟨r0, r1, r2, r3, r4, r5⟩, rf⟩ := r1; obtain ⟨⟨q0, q1, q2⟩, qf⟩ := q1; clear z r q hb1)
    | (go_at_call 70; (with_reducible refine (l6In_v HC.out _).mono ?_); rintro e w9 ⟨rfl, rfl⟩)
    | (go_at_call 67; (with_reducible refine (next_v HX.out (okS_iff.1 HV.out) ⟨hk.1, by omega⟩ _ (hA.below hw1) (hB.below hw1) eA eB).mono ?_); rintro e w2 ⟨⟨_, rfl, A1, c1, B1, c2, rfl, hI1, hJ1, hap⟩, hb2⟩; have HR2 := hid_of (HR.out.under hb2 (by omega)); have HQ2 := hid_of (HQ.out.under hb2 (by omega)); obtain ⟨⟨r0, r1, r2, r3, r4, r5⟩, rf⟩ := HR2.out; obtain ⟨⟨q0, q1, q2⟩, qf⟩ := HQ2.out; have hw2 := hw1.trans (hb2.mono hw1.size); have hs2 := hb2.size))
  try simp only [Exit.inBlock, Exit.then]
  refine bodyPost_ret (results_spb rfl rfl rfl rfl ((((HR2.out.setAll d1 f1 l1 n1 A1 LA1.length c1 B1 LB1.length c2).other (by dsimp only; omega) _).other (by dsimp only; omega) _).other (by dsimp only; omega) _) (((((((HQ2.out.other (by dsimp only; omega) _).other (by dsimp only; omega) _).other (by dsimp only; omega) _).other (by dsimp only; omega) _).other (by dsimp only; omega) _).other (by dsimp only; omega) _).setAll o2 d2 f2)) rfl ?_
  refine ⟨⟨_, rfl, A1, c1, B1, c2, rfl, ?_, ?_, hap⟩, ?_⟩
  · refine RngIn.mono (B := w1.heap.size) (S := w2.heap.size) ?_ (by omega) (by simp [World.setCell])
    repeat refine RngIn.setLow ?_ (by dsimp only; omega) _
    exact hI1
  · refine RngIn.mono (B := w1.heap.size) (S := w2.heap.size) ?_ (by omega) (by simp [World.setCell])
    repeat refine RngIn.setLow ?_ (by dsimp only; omega) _
    exact hJ1
  · repeat refine Below.setCell ?_ (by dsimp only; omega) _
    exact hw2

theorem snext_s (d : ByteArray) (f : Bool) (l n : Int) (LA LB : List Rg) (A : Option Addr) (ca : Nat) (B : Option Addr) (cb : Nat) (k : Int) (w : World) (hA : RngAt w A LA.length LA) (hB : RngAt w B LB.length LB) (eA : A = none → ca = 0) (eB : B = none → cb = 0) (hn : LA.length ≤ 2000000) (hn' : LB.length ≤ 2000000) :
    Calls Try.prog 35 #[.agg #[.string d, .bool f, .int .i64 l, .int .i64 n, .slice A LA.length ca, .slice B LB.length cb], .int .i64 k] w (GotNext w (sendNext ⟨d, f, l, n, LA, LB⟩ k)) := by
  unfold sendNext
  cases hv : okS ⟨d, f, l, n, LA, LB⟩ with
  | false => rw [if_neg (by rintro ⟨e, _⟩; cases e)]; exact snext_s_bad d f l n LA LB A ca B cb k w hA hB eA eB hn hn' hv
  | true =>
    cases hc : decide (1 ≤ k ∧ k ≤ 12) with
    | false => rw [if_neg (by rintro ⟨_, e⟩; cases e)]; exact snext_s_size d f l n LA LB A ca B cb k w hA hB eA eB hn hn' hv hc
    | true =>
      rw [if_pos ⟨rfl, rfl⟩]
      exact snext_s_good d f l n LA LB A ca B cb k w hA hB eA eB hn hn' hv hc _ _ _ _ _ _ _ _ _ _ (hid_of rfl)
end Go.Proofs.Ytmkmaeblnnfheaa
