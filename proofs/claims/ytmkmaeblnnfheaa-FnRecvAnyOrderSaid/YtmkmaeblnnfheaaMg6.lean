/- Merged: DrwC, DrwD, SndWs, SndGi, SndGs, SndFi. -/
import Derived.Test.YtmkmaeblnnfheaaDrwB
import Derived.Test.YtmkmaeblnnfheaaMg4
import Derived.Test.YtmkmaeblnnfheaaMg2
/- A stream is drawn, seldom an invalid one: l92Spoilt. -/
namespace Go.Proofs.Ytmkmaeblnnfheaa
open Go.RowKit
attribute [local irreducible] Go.wpQuiet

/-- A stream, perhaps an invalid one, and its sent parts were drawn. -/
def DrawnSp (w : World) (R rb n : Nat) (e : Ending) (w' : World) : Prop :=
  ∃ d f l n' LA LB A ca B cb P cp L, e = .returned (.tuple #[.agg #[.string d, .bool f, .int .i64 l, .int .i64 n', .slice A LA.length ca, .slice B LB.length cb], .slice P L.length cp]) ∧ (d.size ≤ 42 ∧ LA.length ≤ 17 ∧ LB.length ≤ 17 ∧ L.length ≤ 12 ∧ ∀ p, p ∈ L → p.d.size ≤ 30) ∧ Rd w' R rb (n + 110) ∧ w.grownBy w' (some rb) ∧
    RngIn w' w.heap.size w'.heap.size A LA.length ca LA ∧ RngIn w' w.heap.size w'.heap.size B LB.length cb LB ∧ PrtIn w' w.heap.size w'.heap.size P L.length cp L

structure S2 (w wr : World) (Hi R rb m xb : Nat) (s : Sd) (A : Option Addr) (ca : Nat) (B : Option Addr) (cb : Nat) (P : Option Addr) (cp : Nat) (L : List Pt) : Prop where
  rd : Rd wr R rb m
  g : w.grownBy wr (some rb)
  lt : rb < w.heap.size
  le : w.heap.size + 1 ≤ xb
  hi : Hi ≤ wr.heap.size
  x : Own6 wr xb s.d s.f s.l s.n A s.A.length ca B s.L.length cb
  res : Own6 wr w.heap.size (⟨#[]⟩ : ByteArray) false 0 0 none 0 0 none 0 0
  a : RngIn wr (w.heap.size + 1) Hi A s.A.length ca s.A
  b : RngIn wr (w.heap.size + 1) Hi B s.L.length cb s.L
  ap : Hi = xb → Apart A ca B cb
  p : PrtIn wr (w.heap.size + 1) Hi P L.length cp L

section
variable {w wr w' : World} {Hi R rb m xb : Nat} {s : Sd} {A : Option Addr} {ca : Nat} {B : Option Addr} {cb : Nat} {P : Option Addr} {cp : Nat} {L : List Pt}
theorem RngIn.other' {Lo Hi n c : Nat} {M : List Rg} (h : RngIn w Lo Hi A n c M) {g S : Nat} (t : Touch w w' g S) (hne : 0 < c → ∀ y, A = some y → y.block < g ∨ S ≤ y.block) : RngIn w' Lo Hi A n c M := by
  refine ⟨h.1, h.2.1, ?_⟩
  rcases h.2.2 with h0 | ⟨ho, q, rfl, h1, h2, h3⟩
  · exact .inl h0
  · rcases Nat.eq_zero_or_pos c with e | hc
    · have hcap := h.cap
      exact .inl ⟨by omega, e⟩
    · have hr : RowIn 40 2 w Lo Hi (some ⟨q, 0, none⟩) n c (rcells M) := ⟨h.2.1, .inr ⟨ho, q, rfl, h1, h2, h3⟩⟩
      exact (RowIn.same hr t.size fun q' e _ _ => by cases e; exact t.block q h3 (hne hc _ rfl)).2
/-- Parts and ranges never share a block. -/
theorem PrtIn.keepsR {Lo Hi n c : Nat} {M : List Pt} (h : PrtIn w Lo Hi A n c M) {g : Nat} (hg : ∃ cur, w.heap[g]? = some (.cells cur 40 (0, 0))) (t : Touch w w' g (g + 1)) : PrtIn w' Lo Hi A n c M := by
  refine ⟨h.1, h.2.1, ?_⟩
  rcases h.2.2 with h0 | ⟨ho, q, rfl, h1, h2, h3⟩
  · exact .inl h0
  · have hne : q ≠ g := by
      rintro rfl
      obtain ⟨cur, hg⟩ := hg
      rcases ho.2 with ⟨e, _⟩ | ⟨g', c', cur', e, _, q', _⟩
      · cases e
      · cases e
        rw [hg] at q'
        injection q' with q'
        injection q' with _ q'
        exact absurd q' (by decide)
    have hr : RowIn 27 3 w Lo Hi (some ⟨q, 0, none⟩) n c (pcells M) := ⟨h.2.1, .inr ⟨ho, q, rfl, h1, h2, h3⟩⟩
    exact (RowIn.same hr t.size fun q' e _ _ => by cases e; exact t.block q h3 (by omega)).2
theorem S2.turned (h : S2 w wr Hi R rb m xb s A ca B cb P cp L) {m' : Nat} (hr : Rd w' R rb m') (hg : wr.grownBy w' (some rb)) : S2 w w' Hi R rb m' xb s A ca B cb P cp L :=
  have h1 := h.lt
  have h2 := h.le
  ⟨hr, grown_trans h.g hg, h.lt, h.le, Nat.le_trans h.hi hg.size, h.x.far hg (by omega), h.res.far hg (by omega), h.a.far hg (by omega), h.b.far hg (by omega), h.ap, h.p.far hg (by omega)⟩
theorem S2.pick (h : S2 w wr Hi R rb m xb s A ca B cb P cp L) (hm : m ≤ 1000000) (k : Int) (hk : 1 ≤ k) (hk' : k ≤ 1000000) :
    Calls Try.prog 63 #[.pointer (some ⟨rb, 0, none⟩), .int .i64 k] wr fun e w' => ∃ v : Int, e = .returned (.int .i64 v) ∧ 0 ≤ v ∧ v < k ∧ S2 w w' Hi R rb (m + 1) xb s A ca B cb P cp L ∧ wr.grownBy w' (some rb) :=
  (pick_any wr rb m k h.rd (by omega) hk hk').mono fun _ _ ⟨v, he, h0, h1, hr, hg⟩ => ⟨v, he, h0, h1, h.turned hr hg, hg⟩
theorem S2.limit (h : S2 w wr Hi R rb m xb s A ca B cb P cp L) (hm : m ≤ 1000000) :
    Calls Try.prog 89 #[.pointer (some ⟨rb, 0, none⟩)] wr fun e w' => ∃ v : Int, e = .returned (.int .i64 v) ∧ S2 w w' Hi R rb (m + 2) xb s A ca B cb P cp L ∧ wr.grownBy w' (some rb) :=
  (limit_any wr rb m h.rd hm).mono fun _ _ ⟨v, he, _, _, hr, hg⟩ => ⟨v, he, h.turned hr hg, hg⟩
theorem S2.data (h : S2 w wr Hi R rb m xb s A ca B cb P cp L) (hm : m ≤ 1000000) :
    Calls Try.prog 60 #[.pointer (some ⟨rb, 0, none⟩)] wr fun e w' => ∃ D, e = .returned (.string D) ∧ D.size ≤ 12 ∧ S2 w w' Hi R rb (m + 1) xb s A ca B cb P cp L ∧ wr.grownBy w' (some rb) :=
  (data_any wr rb m h.rd hm).mono fun _ _ ⟨v, he, h0, hr, hg⟩ => ⟨v, he, h0, h.turned hr hg, hg⟩
theorem S2.drawn (h : S2 w wr Hi R rb m xb s A ca B cb P cp L) (j : Nat) : S2 w { wr with drawn := j } Hi R rb m xb s A ca B cb P cp L :=
  ⟨h.rd, ⟨h.g.os, h.g.tape, h.g.output, h.g.size, h.g.block⟩, h.lt, h.le, h.hi, h.x, h.res, h.a, h.b, h.ap, h.p⟩
theorem S2.below (h : S2 w wr Hi R rb m xb s A ca B cb P cp L) (hb : Below wr.heap.size wr w') : S2 w w' Hi R rb m xb s A ca B cb P cp L :=
  ⟨h.rd.far (grown_of_below' hb) (fun _ e => by cases e), grown_below h.g hb, h.lt, h.le, Nat.le_trans h.hi hb.size, h.x.under hb h.x.1.lt, h.res.under hb h.res.1.lt, h.a.below hb, h.b.below hb, h.ap, h.p.below hb⟩
theorem S2.alloc (h : S2 w wr Hi R rb m xb s A ca B cb P cp L) (o : Obj) : S2 w (wr.alloc o) Hi R rb m xb s A ca B cb P cp L := h.below ((Below.refl _ _).alloc (Nat.le_refl _) o)
/-- The stream's block takes a new value. -/
theorem S2.store {s' : Sd} {A' B' : Option Addr} {ca' cb' Hi' : Nat} (h : S2 w wr Hi R rb m xb s A ca B cb P cp L) (j : Nat) (u : Value) (hx : Own6 (wr.setCell ⟨xb, j, none⟩ u) xb s'.d s'.f s'.l s'.n A' s'.A.length ca' B' s'.L.length cb') 
    (ha : RngIn (wr.setCell ⟨xb, j, none⟩ u) (w.heap.size + 1) Hi' A' s'.A.length ca' s'.A) (hb : RngIn (wr.setCell ⟨xb, j, none⟩ u) (w.heap.size + 1) Hi' B' s'.L.length cb' s'.L) (hap : Hi' = xb → Apart A' ca' B' cb') (hp : PrtIn (wr.setCell ⟨xb, j, none⟩ u) (w.heap.size + 1) Hi' P L.length cp L) (hi : Hi' ≤ wr.heap.size) :
    S2 w (wr.setCell ⟨xb, j, none⟩ u) Hi' R rb m xb s' A' ca' B' cb' P cp L :=
  have h1 := h.lt
  have h2 := h.le
  ⟨h.rd.setCell (by show rb < xb; omega) u, grown_setCell h.g (by show w.heap.size ≤ xb; omega) u, h.lt, h.le, by simpa [World.setCell] using hi, hx, h.res.other (by show xb ≠ w.heap.size; omega) u, ha, hb, hap, hp⟩
theorem S2.store1 {s' : Sd} (h : S2 w wr xb R rb m xb s A ca B cb P cp L) (j : Nat) (u : Value) (hx : Own6 (wr.setCell ⟨xb, j, none⟩ u) xb s'.d s'.f s'.l s'.n A s'.A.length ca B s'.L.length cb) (eA : s'.A = s.A) (eL : s'.L = s.L) :
    S2 w (wr.setCell ⟨xb, j, none⟩ u) xb R rb m xb s' A ca B cb P cp L :=
  have t : Touch wr (wr.setCell ⟨xb, j, none⟩ u) xb (xb + 1) := (Touch.refl wr xb (xb + 1)).setCell (Nat.le_refl _) (Nat.lt_succ_self _) u
  h.store j u hx (by rw [eA]; exact h.a.touch t (.inl (Nat.le_refl _))) (by rw [eL]; exact h.b.touch t (.inl (Nat.le_refl _))) h.ap ⟨h.p.1, h.p.2.touch t (.inl (Nat.le_refl _))⟩ h.hi
theorem S2.setD (h : S2 w wr xb R rb m xb s A ca B cb P cp L) (d' : ByteArray) : S2 w (wr.setCell ⟨xb, 0, none⟩ (.string d')) xb R rb m xb { s with d := d' } A ca B cb P cp L := h.store1 0 _ (h.x.set0 d') rfl rfl
theorem S2.setF (h : S2 w wr xb R rb m xb s A ca B cb P cp L) (f' : Bool) : S2 w (wr.setCell ⟨xb, 1, none⟩ (.bool f')) xb R rb m xb { s with f := f' } A ca B cb P cp L := h.store1 1 _ (h.x.set1 f') rfl rfl
theorem S2.setL (h : S2 w wr xb R rb m xb s A ca B cb P cp L) (l' : Int) : S2 w (wr.setCell ⟨xb, 2, none⟩ (.int .i64 l')) xb R rb m xb { s with l := l' } A ca B cb P cp L := h.store1 2 _ (h.x.set2 l') rfl rfl
theorem S2.setN (h : S2 w wr xb R rb m xb s A ca B cb P cp L) (n' : Int) : S2 w (wr.setCell ⟨xb, 3, none⟩ (.int .i64 n')) xb R rb m xb { s with n := n' } A ca B cb P cp L := h.store1 3 _ (h.x.set3 n') rfl rfl
theorem S2.done {d : ByteArray} {f : Bool} {l n' : Int} {LA LB : List Rg} (h : S2 w wr Hi R rb m xb ⟨d, f, l, n', LA, LB⟩ A ca B cb P cp L) {n : Nat} (hm : m ≤ n + 110) (hd : d.size ≤ 42) (hA : LA.length ≤ 17) (hB : LB.length ≤ 17) (hL : Hid (L.length ≤ 12 ∧ ∀ p, p ∈ L → p.d.size ≤ 30)) :
    DrawnSp w R rb n (.returned (.tuple #[.agg #[.string d, .bool f, .int .i64 l, .int .i64 n', .slice A LA.length ca, .slice B LB.length cb], .slice P L.length cp]))
      ((((((wr.setCell ⟨w.heap.size, 0, none⟩ (.string d)).setCell ⟨w.heap.size, 1, none⟩ (.bool f)).setCell ⟨w.heap.size, 2, none⟩ (.int .i64 l)).setCell ⟨w.heap.size, 3, none⟩ (.int .i64 n')).setCell ⟨w.heap.size, 4, none⟩ (.slice A LA.length ca)).setCell ⟨w.heap.size, 5, none⟩ (.slice B LB.length cb)) := by
  have h1 := h.lt
  have h2 := h.hi
  refine ⟨d, f, l, n', LA, LB, A, ca, B, cb, P, cp, L, rfl, ⟨hd, hA, hB, hL.out.1, hL.out.2⟩, ?_, ?_, ?_, ?_, ?_⟩
  · repeat refine Rd.setCell ?_ (by show rb < w.heap.size; omega) _
    exact h.rd.mono hm
  · repeat refine grown_setCell ?_ (by show w.heap.size ≤ w.heap.size; omega) _
    exact h.g
  · refine RngIn.mono (B := w.heap.size + 1) (S := Hi) ?_ (by omega) (by simp [World.setCell]; omega)
    repeat refine RngIn.setLow ?_ (by show w.heap.size < w.heap.size + 1; omega) _
    exact h.a
  · refine RngIn.mono (B := w.heap.size + 1) (S := Hi) ?_ (by omega) (by simp [World.setCell]; omega)
    repeat refine RngIn.setLow ?_ (by show w.heap.size < w.heap.size + 1; omega) _
    exact h.b
  · refine PrtIn.mono (B := w.heap.size + 1) (S := Hi) ?_ (by omega) (by simp [World.setCell]; omega)
    repeat refine PrtIn.setLow ?_ (by show w.heap.size < w.heap.size + 1; omega) _
    exact h.p
/-- Where a range may be appended to a set: its own block, or none. -/
theorem RngIn.room {Lo Hi n c : Nat} {M : List Rg} (h : RngIn w Lo Hi A n c M) : ∃ g S, (S = g ∧ g = w.heap.size ∧ c = 0 ∨ S = g + 1 ∧ Lo ≤ g ∧ g < Hi ∧ g < w.heap.size ∧ A = some ⟨g, 0, none⟩ ∧ 0 < c ∧ ∃ cur, w.heap[g]? = some (.cells cur 40 (0, 0))) ∧ RngIn w g S A n c M := by
  rcases h.2.2 with ⟨h0, h1⟩ | ⟨ho, q, rfl, h1, h2, h3⟩
  · exact ⟨w.heap.size, w.heap.size, .inl ⟨rfl, rfl, h1⟩, h.1, h.2.1, .inl ⟨h0, h1⟩⟩
  rcases Nat.eq_zero_or_pos c with h0 | hc
  · exact ⟨w.heap.size, w.heap.size, .inl ⟨rfl, rfl, h0⟩, h.1, h.2.1, .inl ⟨by have := h.cap; omega, h0⟩⟩
  · have hk : ∃ cur, w.heap[q]? = some (.cells cur 40 (0, 0)) := by
      rcases ho.2 with ⟨e, _⟩ | ⟨g', c', cur', e, _, q', _⟩
      · cases e
      · cases e
        exact ⟨cur', q'⟩
    refine ⟨q, q + 1, .inr ⟨rfl, h1, h2, h3, rfl, hc, hk⟩, h.1, h.2.1, .inr ⟨⟨ho.1, ?_⟩, q, rfl, Nat.le_refl _, Nat.lt_succ_self _, h3⟩⟩
    rcases ho.2 with ⟨e, _⟩ | ⟨g', c', cur', e, _, q'⟩
    · cases e
    · cases e
      exact .inr ⟨q, _, cur', rfl, Nat.le_refl _, q'⟩
end
theorem Own6.same {w w' : World} {b : Nat} {d : ByteArray} {f : Bool} {l n : Int} {A : Option Addr} {na ca : Nat} {B : Option Addr} {nb cb : Nat} (h : Own6 w b d f l n A na ca B nb cb) (e : w'.heap[b]? = w.heap[b]?) : Own6 w' b d f l n A na ca B nb cb := h.of_block e
/-- A block of ranges is no block of a stream. -/
theorem ne_of_x {w : World} {b : Nat} {d : ByteArray} {f : Bool} {l n : Int} {A : Option Addr} {na ca : Nat} {B : Option Addr} {nb cb : Nat} (h : Own6 w b d f l n A na ca B nb cb) {Lo Hi m c : Nat} {M : List Rg} {X : Option Addr} (hr : RngIn w Lo Hi X m c M) (hm : 0 < m) : ∀ y, X = some y → y.block ≠ b := by
  obtain ⟨g, rfl, _, _, _, _, hc⟩ := hr.at_ hm
  rintro y e rfl
  cases e
  have h0 := (hc 0 hm).1
  have h1 := h.1.1
  rw [show 0 * 2 = 0 from rfl, h1] at h0
  cases h0

/-- Behind the appending: a new set X, not yet stored; the other set O. -/
structure SA (w wr : World) (R rb m xb : Nat) (d : ByteArray) (f : Bool) (l n' : Int) (LA LB : List Rg) (A : Option Addr) (ca : Nat) (B : Option Addr) (cb : Nat) (P : Option Addr) (cp : Nat) (L : List Pt) (X : Option Addr) (cx : Nat) (M : List Rg) (O : Option Addr) (co : Nat) (LO : List Rg) : Prop where
  rd : Rd wr R rb m
  g : w.grownBy wr (some rb)
  lt : rb < w.heap.size
  le : w.heap.size + 1 ≤ xb
  x : Own6 wr xb d f l n' A LA.length ca B LB.length cb
  res : Own6 wr w.heap.size (⟨#[]⟩ : ByteArray) false 0 0 none 0 0 none 0 0
  n : RngIn wr (w.heap.size + 1) wr.heap.size X M.length cx M
  ne : ∀ y, X = some y → y.block ≠ xb
  o : RngIn wr (w.heap.size + 1) xb O LO.length co LO
  p : PrtIn wr (w.heap.size + 1) xb P L.length cp L
section
variable {w wr w' : World} {R rb m xb : Nat} {d : ByteArray} {f : Bool} {l n' : Int} {LA LB : List Rg} {A : Option Addr} {ca : Nat} {B : Option Addr} {cb : Nat} {P : Option Addr} {cp : Nat} {L : List Pt}
theorem S2.snoc (h : S2 w wr xb R rb m xb ⟨d, f, l, n', LA, LB⟩ A ca B cb P cp L) {g S : Nat} {K O : Option Addr} {ck co nk : Nat} {LK LO : List Rg}
    (hg : S = g ∧ g = wr.heap.size ∧ ck = 0 ∨ S = g + 1 ∧ w.heap.size + 1 ≤ g ∧ g < xb ∧ g < wr.heap.size ∧ K = some ⟨g, 0, none⟩ ∧ 0 < ck ∧ ∃ cur, wr.heap[g]? = some (.cells cur 40 (0, 0)))
    (ho : RngIn wr (w.heap.size + 1) xb O LO.length co LO) (hap : 0 < ck → 0 < co → ∀ x y, K = some x → O = some y → x.block ≠ y.block) (hnk : nk = LK.length) {X : Option Addr} {c2 : Nat} {y : Rg} (hX : RngIn w' g w'.heap.size X (nk + 1) c2 (LK ++ [y])) (t : Touch wr w' g S) :
    SA w w' R rb m xb d f l n' LA LB A ca B cb P cp L X c2 (LK ++ [y]) O co LO := by
  subst hnk
  have h1 := h.lt
  have h2 := h.le
  have hx := h.x
  have hxl := h.x.1.lt
  have hr := h.res
  have hrl := h.res.1.lt
  have hgl : w.heap.size + 1 ≤ g := by rcases hg with ⟨_, e, _⟩ | ⟨_, e, _⟩ <;> omega
  have hgx : xb < g ∨ S ≤ xb := by rcases hg with ⟨_, e, _⟩ | ⟨_, _, e, _⟩ <;> omega
  have hx' : Own6 w' xb d f l n' A LA.length ca B LB.length cb := hx.of_block (t.block xb hxl hgx)
  have hX' : RngIn w' (w.heap.size + 1) w'.heap.size X (LK ++ [y]).length c2 (LK ++ [y]) := by rw [List.length_append]; exact hX.mono hgl (Nat.le_refl _)
  refine ⟨?_, ⟨t.os.trans h.g.os, t.tape.trans h.g.tape, t.output.trans h.g.output, Nat.le_trans h.g.size t.size, fun k hk hne => (t.block k (Nat.lt_of_lt_of_le hk h.g.size) (by omega)).trans (h.g.block k hk hne)⟩, h.lt, h.le, hx', hr.of_block (t.block _ hrl (by omega)), hX', ne_of_x hx' hX' (by rw [List.length_append]; exact Nat.succ_pos _), ?_, ?_⟩
  · obtain ⟨a, l, c0, q, zs, hblk, hl, hq, hB, hb⟩ := h.rd
    have hrs := (Array.getElem?_eq_some_iff.1 hblk).1
    refine ⟨a, l, c0, q, zs, (t.block rb hrs (by omega)).trans hblk, hl, hq, hB, ?_⟩
    rcases hb with hb | ⟨b, off, ha, hne, hc, hz⟩
    · exact .inl hb
    · exact .inr ⟨b, off, ha, hne, fun i hi => (World.cell?_of_block (w := wr) (a := ⟨b, off + i, none⟩) (t.block b (by omega) (by omega))).trans (hc i hi), hz⟩
  · rcases hg with ⟨_, e, _⟩ | ⟨e, _, _, _, eK, hck, _⟩
    · exact ho.touch t (.inl (by omega))
    · exact ho.other' t fun hc y ey => by
        have := hap hck hc _ _ eK ey
        dsimp only at this
        omega
  · rcases hg with ⟨_, e, _⟩ | ⟨rfl, _, _, _, _, _, hk⟩
    · exact h.p.touch t (.inl (by omega))
    · exact h.p.keepsR hk t
theorem SA.putA {X : Option Addr} {cx : Nat} {M : List Rg} (h : SA w wr R rb m xb d f l n' LA LB A ca B cb P cp L X cx M B cb LB) {k : Nat} (hk : k = M.length) : S2 w (wr.setCell ⟨xb, 4, none⟩ (.slice X k cx)) wr.heap.size R rb m xb ⟨d, f, l, n', M, LB⟩ X cx B cb P cp L := by
  subst hk
  have h1 := h.lt
  have h2 := h.le
  have hxl := h.x.1.lt
  have t : Touch wr (wr.setCell ⟨xb, 4, none⟩ (.slice X M.length cx)) xb (xb + 1) := (Touch.refl wr xb (xb + 1)).setCell (Nat.le_refl _) (Nat.lt_succ_self _) _
  exact ⟨h.rd.setCell (by show rb < xb; omega) _, grown_setCell h.g (by show w.heap.size ≤ xb; omega) _, h.lt, h.le, by simp [World.setCell], h.x.set4 _ _ _, h.res.other (by show xb ≠ w.heap.size; omega) _, h.n.other' t (fun _ y ey => by have := h.ne y ey; omega), (h.o.touch t (.inl (Nat.le_refl _))).mono (Nat.le_refl _) (by omega), fun e => absurd e (by omega), (h.p.touch t (.inl (Nat.le_refl _))).mono (Nat.le_refl _) (by omega)⟩
theorem SA.putB {X : Option Addr} {cx : Nat} {M : List Rg} (h : SA w wr R rb m xb d f l n' LA LB A ca B cb P cp L X cx M A ca LA) {k : Nat} (hk : k = M.length) : S2 w (wr.setCell ⟨xb, 5, none⟩ (.slice X k cx)) wr.heap.size R rb m xb ⟨d, f, l, n', LA, M⟩ A ca X cx P cp L := by
  subst hk
  have h1 := h.lt
  have h2 := h.le
  have hxl := h.x.1.lt
  have t : Touch wr (wr.setCell ⟨xb, 5, none⟩ (.slice X M.length cx)) xb (xb + 1) := (Touch.refl wr xb (xb + 1)).setCell (Nat.le_refl _) (Nat.lt_succ_self _) _
  exact ⟨h.rd.setCell (by show rb < xb; omega) _, grown_setCell h.g (by show w.heap.size ≤ xb; omega) _, h.lt, h.le, by simp [World.setCell], h.x.set5 _ _ _, h.res.other (by show xb ≠ w.heap.size; omega) _, (h.o.touch t (.inl (Nat.le_refl _))).mono (Nat.le_refl _) (by omega), h.n.other' t (fun _ y ey => by have := h.ne y ey; omega), fun e => absurd e (by omega), (h.p.touch t (.inl (Nat.le_refl _))).mono (Nat.le_refl _) (by omega)⟩
end

set_option linter.unusedVariables false in
set_option maxRecDepth 100000 in
set_option maxHeartbeats 8000000 in
theorem spoilt_any {R : Nat} (w : World) (rb n : Nat) (h : Rd w R rb n) (hn : n ≤ 1000) :
    Calls Try.prog 59 #[.pointer (some ⟨rb, 0, none⟩)] w (DrawnSp w R rb n) := by
  have hlt := h.lt
  go_enter Try.func59, Try.ntmps59
  go_wp2_with fail
  generalize hw0 : World.alloc w _ = w0
  have hR0 : Rd w0 R rb n := by rw [← hw0]; exact h.alloc _
  have hres : Hid (Own6 w0 w.heap.size (⟨#[]⟩ : ByteArray) false 0 0 none 0 0 none 0 0) := by rw [← hw0]; exact hid_of (Own6.newT w _)
  have hg0 : w.grownBy w0 (some rb) := by rw [← hw0]; exact grown_alloc (grown_refl w _) _
  have hs0 : w.heap.size + 1 ≤ w0.heap.size := by rw [← hw0]; simp
  clear hw0
  with_reducible refine (send_any w0 rb n hR0 (by omega)).mono ?_
  rintro e w1 ⟨d, f, l, n', LA, LB, A, ca, B, cb, P, cp, L, rfl, HG, hL12, hr1, hg1, hI, hJ, hap, hP⟩
  have hs1 := hg1.size
  have HL : Hid (L.length ≤ 12 ∧ ∀ p, p ∈ L → p.d.size ≤ 30) := hid_of ⟨hL12, fun p hp => ((HG.all p hp).bd HG.sv).2.1⟩
  obtain ⟨hd, _, _, hA, hB⟩ := HG.sv.bd
  dsimp only at hd hA hB
  clear HG hL12
  go_wp2_with fail
  generalize hW3 : World.alloc w1 _ = W3
  have S : Hid (S2 w W3 w1.heap.size R rb (n + 100) w1.heap.size ⟨d, f, l, n', LA, LB⟩ A ca B cb P cp L) := by
    rw [← hW3]
    exact hid_of ⟨hr1.alloc _, grown_alloc (grown_trans hg0 hg1) _, hlt, by omega, by simp, Own6.newT w1 _, (hres.out.far hg1 (by omega)).alloc _, (hI.mono (by omega) (Nat.le_refl _)).alloc _, (hJ.mono (by omega) (Nat.le_refl _)).alloc _, fun _ => hap, (hP.mono (by omega) (Nat.le_refl _)).alloc _⟩
  obtain ⟨xb, hxb⟩ : ∃ b, w1.heap.size = b := ⟨_, rfl⟩
  rw [hxb] at S ⊢
  clear hW3 hxb hs1 hres hg0 hg1 hI hJ hap hP hR0 hr1
  with_reducible refine (S.out.pick (by omega) 18 (by omega) (by omega)).mono ?_
  rintro e w4 ⟨k, rfl, hk0, hk1, S4, hg4⟩
  have S4 := hid_of S4
  clear S hg4
  rcases (show k = 0 ∨ k = 1 ∨ k = 2 ∨ k = 3 ∨ k = 4 ∨ k = 5 ∨ 6 ≤ k from by omega) with rfl | rfl | rfl | rfl | rfl | rfl | hk6
  · go_wp2_with fail
    have inst : Nonempty (In (fun y => Own6 y xb d f l n' A LA.length ca B LB.length cb)) := ⟨⟨w4, S4.out.x⟩⟩
    have u3 := fun z : In (fun y => Own6 y xb d f l n' A LA.length ca B LB.length cb) => z.h.1.2.2.2.1
    refine wp_region_end (fun y => Own6 y xb d f l n' A LA.length ca B LB.length cb) (fun y => S2 w y xb R rb (n + 100 + 1) xb ⟨d, f, l, n', LA, LB⟩ A ca B cb P cp L) [([0, 1, 2], 3)] [4, 5, 6] 7 (by kernel_rfl) (by kernel_rfl) (fun y hy => hy.x) (fun j => S4.out.drawn j) ?_
    simp only [SeqE, opsAt, List.filterMap_cons, List.filterMap_nil, List.getElem?_cons_zero, List.getElem?_cons_succ]
    repeat (quiet_step (fail))
    refine wpQuiet_nil ?_
    refine ⟨_, rfl, rfl, turns_step2 fun Z hZ w5 h5 => ?_⟩
    go_simp
    with_reducible refine (h5.pick (by omega) 5 (by omega) (by omega)).mono ?_
    rintro e w6 ⟨v, rfl, hv0, hv1, S6, hg6⟩
    have S6 := hid_of S6
    clear hg6 h5
    refine hZ (fun y => Own6 y xb d f l n' A LA.length ca B LB.length cb) (fun y => y = w6) _ _ rfl (fun y e => by rw [e]; exact S6.out.x) (fun _ hx => hx) ?_
    clear hZ Z inst u3
    have inst : Nonempty (In (fun y => Own6 y xb d f l n' A LA.length ca B LB.length cb)) := ⟨⟨w6, S6.out.x⟩⟩
    repeat (quiet_step (fail))
    refine wpQuiet_nil ?_
    refine ⟨_, rfl, rfl, fun w7 h7 => ?_⟩
    subst h7
    clear inst
    obtain ⟨⟨x0, x1, x2, x3, x4, x5⟩, xf⟩ := S6.out.x
    dsimp only at x0 x1 x2 x3 x4 x5
    go_simp
    generalize hW : World.setCell w7 _ _ = W8
    have S8 : Hid (∃ N : Int, S2 w W8 xb R rb (n + 100 + 1 + 1) xb ⟨d, f, l, N, LA, LB⟩ A ca B cb P cp L) := by rw [← hW]; exact hid_of ⟨_, S6.out.setN _⟩
    clear hW
    clear x0 x1 x2 x3 x4 x5 xf S6 S4
    obtain ⟨N, S8⟩ := S8.out
    have S8 := hid_of S8
    have hxx := S8.out.x
    have hrr := S8.out.res
    obtain ⟨⟨x0, x1, x2, x3, x4, x5⟩, xf⟩ := hxx
    obtain ⟨⟨r0, r1, r2, r3, r4, r5⟩, rf⟩ := hrr
    dsimp only at x0 x1 x2 x3 x4 x5
    go_wp2_with fail
    try simp only [Exit.inBlock, Exit.then]
    refine bodyPost_ret (results_sb rfl rfl rfl (S8.out.res.setAll d f l N A LA.length ca B LB.length cb)) rfl ?_
    exact S8.out.done (by omega) (by omega) (by omega) (by omega) HL
  · have x0 := S4.out.x
    obtain ⟨⟨x0, x1, x2, x3, x4, x5⟩, xf⟩ := x0
    dsimp only at x0 x1 x2 x3 x4 x5
    go_wp2_with fail
    with_reducible refine (S4.out.limit (by omega)).mono ?_
    rintro e w6 ⟨v, rfl, S6, hg6⟩
    have S6 := hid_of S6
    clear hg6 x0 x1 x2 x3 x4 x5 xf
    obtain ⟨⟨x0, x1, x2, x3, x4, x5⟩, xf⟩ := S6.out.x
    dsimp only at x0 x1 x2 x3 x4 x5
    go_upto_region 15 with (fail)
    generalize hW : World.setCell w6 _ _ = W8
    have S8 : Hid (S2 w W8 xb R rb (n + 100 + 1 + 2) xb ⟨d, f, v, n', LA, LB⟩ A ca B cb P cp L) := by rw [← hW]; exact hid_of (S6.out.setL v)
    clear hW x0 x1 x2 x3 x4 x5 xf
    have hxx := S8.out.x
    have hrr := S8.out.res
    obtain ⟨⟨x0, x1, x2, x3, x4, x5⟩, xf⟩ := hxx
    obtain ⟨⟨r0, r1, r2, r3, r4, r5⟩, rf⟩ := hrr
    dsimp only at x0 x1 x2 x3 x4 x5
    go_wp2_with fail
    try simp only [Exit.inBlock, Exit.then]
    refine bodyPost_ret (results_sb rfl rfl rfl (S8.out.res.setAll d f v n' A LA.length ca B LB.length cb)) rfl ?_
    exact S8.out.done (by omega) (by omega) (by omega) (by omega) HL
  · obtain ⟨⟨x0, x1, x2, x3, x4, x5⟩, xf⟩ := S4.out.x
    dsimp only at x0 x1 x2 x3 x4 x5
    go_upto_region 15 with (fail)
    generalize hW : World.setCell w4 _ _ = W8
    have S8 : Hid (S2 w W8 xb R rb (n + 100 + 1) xb ⟨d, !f, l, n', LA, LB⟩ A ca B cb P cp L) := by rw [← hW]; exact hid_of (S4.out.setF (!f))
    clear hW x0 x1 x2 x3 x4 x5 xf
    have hxx := S8.out.x
    have hrr := S8.out.res
    obtain ⟨⟨x0, x1, x2, x3, x4, x5⟩, xf⟩ := hxx
    obtain ⟨⟨r0, r1, r2, r3, r4, r5⟩, rf⟩ := hrr
    dsimp only at x0 x1 x2 x3 x4 x5
    go_wp2_with fail
    try simp only [Exit.inBlock, Exit.then]
    refine bodyPost_ret (results_sb rfl rfl rfl (S8.out.res.setAll d (!f) l n' A LA.length ca B LB.length cb)) rfl ?_
    exact S8.out.done (by omega) (by omega) (by omega) (by omega) HL
  · go_wp2_with fail
    have inst : Nonempty (In (fun y => Own6 y xb d f l n' A LA.length ca B LB.length cb)) := ⟨⟨w4, S4.out.x⟩⟩
    have u3 := fun z : In (fun y => Own6 y xb d f l n' A LA.length ca B LB.length cb) => z.h.1.2.2.2.2.1
    refine wp_region_end (fun y => Own6 y xb d f l n' A LA.length ca B LB.length cb) (fun y => S2 w y xb R rb (n + 100 + 1) xb ⟨d, f, l, n', LA, LB⟩ A ca B cb P cp L) [([0, 1, 2, 4], 3), ([], 5), ([6], 7), ([], 8)] [9] 10 (by kernel_rfl) (by kernel_rfl) (fun y hy => hy.x) (fun j => S4.out.drawn j) ?_
    simp only [SeqE, opsAt, List.filterMap_cons, List.filterMap_nil, List.getElem?_cons_zero, List.getElem?_cons_succ]
    repeat (quiet_step (fail))
    refine wpQuiet_nil ?_
    refine ⟨_, rfl, rfl, turns_step2 fun Z hZ w5 h5 => ?_⟩
    go_simp
    with_reducible refine (h5.pick (by omega) 32 (by omega) (by omega)).mono ?_
    rintro e w6 ⟨v1, rfl, hv0, hv1, S6, hg6⟩
    have S6 := hid_of S6
    clear hg6 h5
    refine hZ (fun y => Own6 y xb d f l n' A LA.length ca B LB.length cb) (fun y => y = w6) _ _ rfl (fun y e => by rw [e]; exact S6.out.x) (fun _ hx => hx) ?_
    clear hZ Z inst u3
    refine wpQuiet_nil ?_
    refine ⟨_, rfl, rfl, turns_step2 fun Z hZ w7 h7 => ?_⟩
    subst h7
    go_simp
    with_reducible refine (S6.out.pick (by omega) 32 (by omega) (by omega)).mono ?_
    rintro e w8 ⟨v2, rfl, hu0, hu1, S8, hg8⟩
    have S8 := hid_of S8
    clear hg8
    refine hZ (fun y => Own6 y xb d f l n' A LA.length ca B LB.length cb) (fun y => y = w8) _ _ rfl (fun y e => by rw [e]; exact S8.out.x) (fun _ hx => hx) ?_
    clear hZ Z S6
    have inst : Nonempty (In (fun y => Own6 y xb d f l n' A LA.length ca B LB.length cb)) := ⟨⟨w8, S8.out.x⟩⟩
    repeat (quiet_step (fail))
    refine wpQuiet_nil ?_
    clear inst
    refine ⟨_, rfl, rfl, turns_step2 fun Z hZ w9 h9 => ?_⟩
    subst h9
    go_simp
    generalize hW : World.alloc w9 _ = w10
    have HN : Hid ((w9.heap.size < w10.heap.size) ∧ w10.cell? ⟨w9.heap.size, 0, none⟩ = some (.int .i64 v1) ∧ w10.cell? ⟨w9.heap.size, 1, none⟩ = some (.int .i64 v2)) := by rw [← hW]; exact hid_of ⟨by simp, by simp, by simp⟩
    have S10 : Hid (S2 w w10 xb R rb (n + 100 + 1 + 1 + 1) xb ⟨d, f, l, n', LA, LB⟩ A ca B cb P cp L) := by rw [← hW]; exact hid_of (S8.out.alloc _)
    clear hW S8
    refine hZ (fun y => Own6 y xb d f l n' A LA.length ca B LB.length cb) (fun y => y = w10) _ _ rfl (fun y e => by rw [e]; exact S10.out.x) (fun _ hx => hx) ?_
    clear hZ Z
    refine wpQuiet_nil ?_
    refine ⟨_, rfl, rfl, turns_step2 fun Z hZ w11 h11 => ?_⟩
    subst h11
    obtain ⟨gx, hgx⟩ : ∃ b, w9.heap.size = b := ⟨_, rfl⟩
    rw [hgx] at HN ⊢
    clear hgx
    obtain ⟨g, S, hgS, hrng⟩ := S10.out.a.room
    obtain ⟨hN0, hN1, hN2⟩ := HN.out
    have hg9 : g ≤ w11.heap.size := by omega
    refine wp_of_list (ops := #[]) rfl ?_
    refine wpList_snoc_rng _ rfl _ _ rfl ⟨v1, v2⟩ rfl hrng hg9 (by omega) hN0 rfl hN1 hN2 ?_
    intro X c2 w12 hX ht
    refine ⟨rfl, ?_⟩
    have S12 : Hid (SA w w12 R rb (n + 100 + 1 + 1 + 1) xb d f l n' LA LB A ca B cb P cp L X c2 (LA ++ [⟨v1, v2⟩]) B cb LB) := hid_of (S10.out.snoc hgS S10.out.b (fun e1 e2 => S10.out.ap rfl e1 e2) rfl hX ht)
    refine hZ (fun y => Own6 y xb d f l n' A LA.length ca B LB.length cb) (fun y => y = w12) _ _ rfl (fun y e => by rw [e]; exact S12.out.x) (fun _ hx => hx) ?_
    clear hZ Z HN S10 hgS hrng hX ht hN0 hN1 hN2
    have inst : Nonempty (In (fun y => Own6 y xb d f l n' A LA.length ca B LB.length cb)) := ⟨⟨w12, S12.out.x⟩⟩
    repeat (quiet_step (fail))
    refine wpQuiet_nil ?_
    clear inst
    refine ⟨_, rfl, rfl, fun w13 h13 => ?_⟩
    subst h13
    obtain ⟨⟨x0, x1, x2, x3, x4, x5⟩, xf⟩ := S12.out.x
    go_simp
    generalize hW : World.setCell w13 _ _ = W8
    have S8 : Hid (∃ (M : List Rg) (Hi : Nat) (X : Option Addr) (c2 : Nat), M.length ≤ 17 ∧ S2 w W8 Hi R rb (n + 100 + 1 + 1 + 1) xb ⟨d, f, l, n', M, LB⟩ X c2 B cb P cp L) := by rw [← hW]; exact hid_of ⟨_, _, X, c2, by rw [List.length_append]; exact Nat.succ_le_succ hA, S12.out.putA (by rw [List.length_append]; rfl)⟩
    clear hW
    clear x0 x1 x2 x3 x4 x5 xf S12 S4
    obtain ⟨M, Hi, X', c2', hM, S8⟩ := S8.out
    have S8 := hid_of S8
    have hxx := S8.out.x
    have hrr := S8.out.res
    obtain ⟨⟨x0, x1, x2, x3, x4, x5⟩, xf⟩ := hxx
    obtain ⟨⟨r0, r1, r2, r3, r4, r5⟩, rf⟩ := hrr
    dsimp only at x0 x1 x2 x3 x4 x5
    go_wp2_with fail
    try simp only [Exit.inBlock, Exit.then]
    refine bodyPost_ret (results_sb rfl rfl rfl (S8.out.res.setAll d f l n' X' M.length c2' B LB.length cb)) rfl ?_
    exact S8.out.done (by omega) (by omega) (by omega) (by omega) HL
  · go_wp2_with fail
    have inst : Nonempty (In (fun y => Own6 y xb d f l n' A LA.length ca B LB.length cb)) := ⟨⟨w4, S4.out.x⟩⟩
    have u3 := fun z : In (fun y => Own6 y xb d f l n' A LA.length ca B LB.length cb) => z.h.1.2.2.2.2.2
    refine wp_region_end (fun y => Own6 y xb d f l n' A LA.length ca B LB.length cb) (fun y => S2 w y xb R rb (n + 100 + 1) xb ⟨d, f, l, n', LA, LB⟩ A ca B cb P cp L) [([0, 1, 2, 4], 3), ([], 5), ([6], 7), ([], 8)] [9] 10 (by kernel_rfl) (by kernel_rfl) (fun y hy => hy.x) (fun j => S4.out.drawn j) ?_
    simp only [SeqE, opsAt, List.filterMap_cons, List.filterMap_nil, List.getElem?_cons_zero, List.getElem?_cons_succ]
    repeat (quiet_step (fail))
    refine wpQuiet_nil ?_
    refine ⟨_, rfl, rfl, turns_step2 fun Z hZ w5 h5 => ?_⟩
    go_simp
    with_reducible refine (h5.pick (by omega) 32 (by omega) (by omega)).mono ?_
    rintro e w6 ⟨v1, rfl, hv0, hv1, S6, hg6⟩
    have S6 := hid_of S6
    clear hg6 h5
    refine hZ (fun y => Own6 y xb d f l n' A LA.length ca B LB.length cb) (fun y => y = w6) _ _ rfl (fun y e => by rw [e]; exact S6.out.x) (fun _ hx => hx) ?_
    clear hZ Z inst u3
    refine wpQuiet_nil ?_
    refine ⟨_, rfl, rfl, turns_step2 fun Z hZ w7 h7 => ?_⟩
    subst h7
    go_simp
    with_reducible refine (S6.out.pick (by omega) 32 (by omega) (by omega)).mono ?_
    rintro e w8 ⟨v2, rfl, hu0, hu1, S8, hg8⟩
    have S8 := hid_of S8
    clear hg8
    refine hZ (fun y => Own6 y xb d f l n' A LA.length ca B LB.length cb) (fun y => y = w8) _ _ rfl (fun y e => by rw [e]; exact S8.out.x) (fun _ hx => hx) ?_
    clear hZ Z S6
    have inst : Nonempty (In (fun y => Own6 y xb d f l n' A LA.length ca B LB.length cb)) := ⟨⟨w8, S8.out.x⟩⟩
    repeat (quiet_step (fail))
    refine wpQuiet_nil ?_
    clear inst
    refine ⟨_, rfl, rfl, turns_step2 fun Z hZ w9 h9 => ?_⟩
    subst h9
    go_simp
    generalize hW : World.alloc w9 _ = w10
    have HN : Hid ((w9.heap.size < w10.heap.size) ∧ w10.cell? ⟨w9.heap.size, 0, none⟩ = some (.int .i64 v1) ∧ w10.cell? ⟨w9.heap.size, 1, none⟩ = some (.int .i64 v2)) := by rw [← hW]; exact hid_of ⟨by simp, by simp, by simp⟩
    have S10 : Hid (S2 w w10 xb R rb (n + 100 + 1 + 1 + 1) xb ⟨d, f, l, n', LA, LB⟩ A ca B cb P cp L) := by rw [← hW]; exact hid_of (S8.out.alloc _)
    clear hW S8
    refine hZ (fun y => Own6 y xb d f l n' A LA.length ca B LB.length cb) (fun y => y = w10) _ _ rfl (fun y e => by rw [e]; exact S10.out.x) (fun _ hx => hx) ?_
    clear hZ Z
    refine wpQuiet_nil ?_
    refine ⟨_, rfl, rfl, turns_step2 fun Z hZ w11 h11 => ?_⟩
    subst h11
    obtain ⟨gx, hgx⟩ : ∃ b, w9.heap.size = b := ⟨_, rfl⟩
    rw [hgx] at HN ⊢
    clear hgx
    obtain ⟨g, S, hgS, hrng⟩ := S10.out.b.room
    obtain ⟨hN0, hN1, hN2⟩ := HN.out
    have hg9 : g ≤ w11.heap.size := by omega
    refine wp_of_list (ops := #[]) rfl ?_
    refine wpList_snoc_rng _ rfl _ _ rfl ⟨v1, v2⟩ rfl hrng hg9 (by omega) hN0 rfl hN1 hN2 ?_
    intro X c2 w12 hX ht
    refine ⟨rfl, ?_⟩
    have S12 : Hid (SA w w12 R rb (n + 100 + 1 + 1 + 1) xb d f l n' LA LB A ca B cb P cp L X c2 (LB ++ [⟨v1, v2⟩]) A ca LA) := hid_of (S10.out.snoc hgS S10.out.a (fun e1 e2 => fun x y ex ey => Ne.symm (S10.out.ap rfl e2 e1 y x ey ex)) rfl hX ht)
    refine hZ (fun y => Own6 y xb d f l n' A LA.length ca B LB.length cb) (fun y => y = w12) _ _ rfl (fun y e => by rw [e]; exact S12.out.x) (fun _ hx => hx) ?_
    clear hZ Z HN S10 hgS hrng hX ht hN0 hN1 hN2
    have inst : Nonempty (In (fun y => Own6 y xb d f l n' A LA.length ca B LB.length cb)) := ⟨⟨w12, S12.out.x⟩⟩
    repeat (quiet_step (fail))
    refine wpQuiet_nil ?_
    clear inst
    refine ⟨_, rfl, rfl, fun w13 h13 => ?_⟩
    subst h13
    obtain ⟨⟨x0, x1, x2, x3, x4, x5⟩, xf⟩ := S12.out.x
    go_simp
    generalize hW : World.setCell w13 _ _ = W8
    have S8 : Hid (∃ (M : List Rg) (Hi : Nat) (X : Option Addr) (c2 : Nat), M.length ≤ 17 ∧ S2 w W8 Hi R rb (n + 100 + 1 + 1 + 1) xb ⟨d, f, l, n', LA, M⟩ A ca X c2 P cp L) := by rw [← hW]; exact hid_of ⟨_, _, X, c2, by rw [List.length_append]; exact Nat.succ_le_succ hB, S12.out.putB (by rw [List.length_append]; rfl)⟩
    clear hW
    clear x0 x1 x2 x3 x4 x5 xf S12 S4
    obtain ⟨M, Hi, X', c2', hM, S8⟩ := S8.out
    have S8 := hid_of S8
    have hxx := S8.out.x
    have hrr := S8.out.res
    obtain ⟨⟨x0, x1, x2, x3, x4, x5⟩, xf⟩ := hxx
    obtain ⟨⟨r0, r1, r2, r3, r4, r5⟩, rf⟩ := hrr
    dsimp only at x0 x1 x2 x3 x4 x5
    go_wp2_with fail
    try simp only [Exit.inBlock, Exit.then]
    refine bodyPost_ret (results_sb rfl rfl rfl (S8.out.res.setAll d f l n' A LA.length ca X' M.length c2')) rfl ?_
    exact S8.out.done (by omega) (by omega) (by omega) (by omega) HL
  · go_wp2_with fail
    have inst : Nonempty (In (fun y => Own6 y xb d f l n' A LA.length ca B LB.length cb)) := ⟨⟨w4, S4.out.x⟩⟩
    have u3 := fun z : In (fun y => Own6 y xb d f l n' A LA.length ca B LB.length cb) => z.h.1.1
    refine wp_region_end (fun y => Own6 y xb d f l n' A LA.length ca B LB.length cb) (fun y => S2 w y xb R rb (n + 100 + 1) xb ⟨d, f, l, n', LA, LB⟩ A ca B cb P cp L) [([0, 1, 2], 3)] [4, 5] 6 (by kernel_rfl) (by kernel_rfl) (fun y hy => hy.x) (fun j => S4.out.drawn j) ?_
    simp only [SeqE, opsAt, List.filterMap_cons, List.filterMap_nil, List.getElem?_cons_zero, List.getElem?_cons_succ]
    repeat (quiet_step (fail))
    refine wpQuiet_nil ?_
    refine ⟨_, rfl, rfl, turns_step2 fun Z hZ w5 h5 => ?_⟩
    go_simp
    with_reducible refine (h5.data (by omega)).mono ?_
    rintro e w6 ⟨D, rfl, hD, S6, hg6⟩
    have S6 := hid_of S6
    clear hg6 h5
    have hcat : ¬ (9223372036854775807 < d.size + D.size) := by omega
    refine hZ (fun y => Own6 y xb d f l n' A LA.length ca B LB.length cb) (fun y => y = w6) _ _ rfl (fun y e => by rw [e]; exact S6.out.x) (fun _ hx => hx) ?_
    clear hZ Z inst u3
    have inst : Nonempty (In (fun y => Own6 y xb d f l n' A LA.length ca B LB.length cb)) := ⟨⟨w6, S6.out.x⟩⟩
    repeat (quiet_step (fail))
    refine wpQuiet_nil ?_
    refine ⟨_, rfl, rfl, fun w7 h7 => ?_⟩
    subst h7
    clear inst
    obtain ⟨⟨x0, x1, x2, x3, x4, x5⟩, xf⟩ := S6.out.x
    dsimp only at x0 x1 x2 x3 x4 x5
    go_simp
    generalize hW : World.setCell w7 _ _ = W8
    have S8 : Hid (∃ D : ByteArray, D.size ≤ 42 ∧ S2 w W8 xb R rb (n + 100 + 1 + 1) xb ⟨D, f, l, n', LA, LB⟩ A ca B cb P cp L) := by rw [← hW]; exact hid_of ⟨_, by rw [ByteArray.size_append]; omega, S6.out.setD _⟩
    clear hW
    clear x0 x1 x2 x3 x4 x5 xf S6 S4
    obtain ⟨D, hd2, S8⟩ := S8.out
    have S8 := hid_of S8
    have hxx := S8.out.x
    have hrr := S8.out.res
    obtain ⟨⟨x0, x1, x2, x3, x4, x5⟩, xf⟩ := hxx
    obtain ⟨⟨r0, r1, r2, r3, r4, r5⟩, rf⟩ := hrr
    dsimp only at x0 x1 x2 x3 x4 x5
    go_wp2_with fail
    try simp only [Exit.inBlock, Exit.then]
    refine bodyPost_ret (results_sb rfl rfl rfl (S8.out.res.setAll D f l n' A LA.length ca B LB.length cb)) rfl ?_
    exact S8.out.done (by omega) (by omega) (by omega) (by omega) HL
  · have e0 : (k == 0) = false := by rw [beq_eq_false_iff_ne]; omega
    have e1 : (k == 1) = false := by rw [beq_eq_false_iff_ne]; omega
    have e2 : (k == 2) = false := by rw [beq_eq_false_iff_ne]; omega
    have e3 : (k == 3) = false := by rw [beq_eq_false_iff_ne]; omega
    have e4 : (k == 4) = false := by rw [beq_eq_false_iff_ne]; omega
    have e5 : (k == 5) = false := by rw [beq_eq_false_iff_ne]; omega
    have hxx := S4.out.x
    have hrr := S4.out.res
    obtain ⟨⟨x0, x1, x2, x3, x4, x5⟩, xf⟩ := hxx
    obtain ⟨⟨r0, r1, r2, r3, r4, r5⟩, rf⟩ := hrr
    dsimp only at x0 x1 x2 x3 x4 x5
    go_wp2_with fail
    try simp only [Exit.inBlock, Exit.then]
    refine bodyPost_ret (results_sb rfl rfl rfl (S4.out.res.setAll d f l n' A LA.length ca B LB.length cb)) rfl ?_
    exact S4.out.done (by omega) (by omega) (by omega) (by omega) HL

end Go.Proofs.Ytmkmaeblnnfheaa
/- What the laws about streams draw. -/
namespace Go.Proofs.Ytmkmaeblnnfheaa
open Go.RowKit
attribute [local irreducible] Go.wpQuiet

/-- A stream, perhaps an invalid one, and a value were drawn. -/
def DrawnV (V : Value → Prop) (w : World) (e : Ending) (w' : World) : Prop :=
  ∃ d f l n' LA LB A ca B cb v, e = .returned (.tuple #[.agg #[.string d, .bool f, .int .i64 l, .int .i64 n', .slice A LA.length ca, .slice B LB.length cb], v]) ∧ V v ∧ (d.size ≤ 42 ∧ LA.length ≤ 17 ∧ LB.length ≤ 17) ∧
    RngIn w' w.heap.size w'.heap.size A LA.length ca LA ∧ RngIn w' w.heap.size w'.heap.size B LB.length cb LB ∧ Below w.heap.size w w'

structure S4 (w wr : World) (rb m xb : Nat) (s : Sd) (A : Option Addr) (ca : Nat) (B : Option Addr) (cb : Nat) (P : Option Addr) (cp : Nat) (L : List Pt) : Prop where
  rd : Rd wr w.heap.size rb m
  bw : Below w.heap.size w wr
  rw : w.heap.size < rb
  xr : rb < xb
  x : Own6 wr xb s.d s.f s.l s.n A s.A.length ca B s.L.length cb
  a : RngIn wr (rb + 1) xb A s.A.length ca s.A
  b : RngIn wr (rb + 1) xb B s.L.length cb s.L
  p : PrtIn wr (rb + 1) xb P L.length cp L
section
variable {w wr w' : World} {rb m xb : Nat} {s : Sd} {A : Option Addr} {ca : Nat} {B : Option Addr} {cb : Nat} {P : Option Addr} {cp : Nat} {L : List Pt}
theorem S4.turned (h : S4 w wr rb m xb s A ca B cb P cp L) {m' : Nat} (hr : Rd w' w.heap.size rb m') (hg : wr.grownBy w' (some rb)) : S4 w w' rb m' xb s A ca B cb P cp L :=
  have h1 := h.rw
  have h2 := h.xr
  ⟨hr, below_grown_new h.bw (Nat.le_refl _) hg (by omega), h.rw, h.xr, h.x.far hg (by omega), h.a.far hg (by omega), h.b.far hg (by omega), h.p.far hg (by omega)⟩
theorem S4.pick (h : S4 w wr rb m xb s A ca B cb P cp L) (hm : m ≤ 1000000) (k : Int) (hk : 1 ≤ k) (hk' : k ≤ 1000000) :
    Calls Try.prog 63 #[.pointer (some ⟨rb, 0, none⟩), .int .i64 k] wr fun e w' => ∃ v : Int, e = .returned (.int .i64 v) ∧ (0 ≤ v ∧ v < k) ∧ S4 w w' rb (m + 1) xb s A ca B cb P cp L ∧ wr.grownBy w' (some rb) :=
  (pick_any wr rb m k h.rd (by omega) hk hk').mono fun _ _ ⟨v, he, h0, h1, hr, hg⟩ => ⟨v, he, ⟨h0, h1⟩, h.turned hr hg, hg⟩
theorem S4.limit (h : S4 w wr rb m xb s A ca B cb P cp L) (hm : m ≤ 1000000) :
    Calls Try.prog 89 #[.pointer (some ⟨rb, 0, none⟩)] wr fun e w' => ∃ v : Int, e = .returned (.int .i64 v) ∧ (-1 ≤ v ∧ v ≤ 31) ∧ S4 w w' rb (m + 2) xb s A ca B cb P cp L ∧ wr.grownBy w' (some rb) :=
  (limit_any wr rb m h.rd hm).mono fun _ _ ⟨v, he, h0, h1, hr, hg⟩ => ⟨v, he, ⟨by omega, by omega⟩, h.turned hr hg, hg⟩
theorem S4.data (h : S4 w wr rb m xb s A ca B cb P cp L) (hm : m ≤ 1000000) :
    Calls Try.prog 60 #[.pointer (some ⟨rb, 0, none⟩)] wr fun e w' => ∃ D : ByteArray, e = .returned (.string D) ∧ D.size ≤ 12 ∧ S4 w w' rb (m + 1) xb s A ca B cb P cp L ∧ wr.grownBy w' (some rb) :=
  (data_any wr rb m h.rd hm).mono fun _ _ ⟨v, he, h0, hr, hg⟩ => ⟨v, he, h0, h.turned hr hg, hg⟩
theorem S4.drawn (h : S4 w wr rb m xb s A ca B cb P cp L) (j : Nat) : S4 w { wr with drawn := j } rb m xb s A ca B cb P cp L :=
  ⟨h.rd, ⟨h.bw.os, h.bw.tape, h.bw.output, h.bw.size, h.bw.block⟩, h.rw, h.xr, h.x, h.a, h.b, h.p⟩
theorem S4.below (h : S4 w wr rb m xb s A ca B cb P cp L) (hb : Below wr.heap.size wr w') : S4 w w' rb m xb s A ca B cb P cp L :=
  ⟨h.rd.far (grown_of_below' hb) (fun _ e => by cases e), h.bw.trans (hb.mono h.bw.size), h.rw, h.xr, h.x.under hb h.x.1.lt, h.a.below hb, h.b.below hb, h.p.below hb⟩
theorem S4.alloc (h : S4 w wr rb m xb s A ca B cb P cp L) (o : Obj) : S4 w (wr.alloc o) rb m xb s A ca B cb P cp L := h.below ((Below.refl _ _).alloc (Nat.le_refl _) o)
/-- A store elsewhere. -/
theorem S4.out (h : S4 w wr rb m xb s A ca B cb P cp L) {q : Addr} (h1 : w.heap.size ≤ q.block) (h2 : q.block < rb ∨ xb < q.block) (u : Value) : S4 w (wr.setCell q u) rb m xb s A ca B cb P cp L :=
  have h3 := h.xr
  have t : Touch wr (wr.setCell q u) q.block (q.block + 1) := (Touch.refl wr q.block (q.block + 1)).setCell (Nat.le_refl _) (Nat.lt_succ_self _) u
  ⟨h.rd.store h1 (by omega) u, h.bw.setCell h1 u, h.rw, h.xr, h.x.other (by omega) u, h.a.touch t (by omega), h.b.touch t (by omega), ⟨h.p.1, h.p.2.touch t (by omega)⟩⟩
theorem S4.out6 (h : S4 w wr rb m xb s A ca B cb P cp L) {q : Nat} (h1 : w.heap.size ≤ q) (h2 : q < rb ∨ xb < q) (v0 v1 v2 v3 v4 v5 : Value) :
    S4 w ((((((wr.setCell ⟨q, 0, none⟩ v0).setCell ⟨q, 1, none⟩ v1).setCell ⟨q, 2, none⟩ v2).setCell ⟨q, 3, none⟩ v3).setCell ⟨q, 4, none⟩ v4).setCell ⟨q, 5, none⟩ v5) rb m xb s A ca B cb P cp L := by
  repeat refine S4.out ?_ h1 h2 _
  exact h
theorem S4.out3 (h : S4 w wr rb m xb s A ca B cb P cp L) {q : Nat} (h1 : w.heap.size ≤ q) (h2 : q < rb ∨ xb < q) (v0 v1 v2 : Value) :
    S4 w (((wr.setCell ⟨q, 0, none⟩ v0).setCell ⟨q, 1, none⟩ v1).setCell ⟨q, 2, none⟩ v2) rb m xb s A ca B cb P cp L := by
  repeat refine S4.out ?_ h1 h2 _
  exact h
theorem S4.done {d : ByteArray} {f : Bool} {l n' : Int} {LA LB : List Rg} (h : S4 w wr rb m xb ⟨d, f, l, n', LA, LB⟩ A ca B cb P cp L) (hb : d.size ≤ 42 ∧ LA.length ≤ 17 ∧ LB.length ≤ 17) {V : Value → Prop} {v : Value} (hv : V v) :
    DrawnV V w (.returned (.tuple #[.agg #[.string d, .bool f, .int .i64 l, .int .i64 n', .slice A LA.length ca, .slice B LB.length cb], v])) wr :=
  have h1 := h.rw
  have h2 := h.x.1.lt
  ⟨d, f, l, n', LA, LB, A, ca, B, cb, v, rfl, hv, hb, h.a.mono (by omega) (by omega), h.b.mono (by omega) (by omega), h.bw⟩
end
theorem Own6.drawnN {w : World} {b : Nat} {d : ByteArray} {f : Bool} {l n : Int} {A : Option Addr} {na ca : Nat} {B : Option Addr} {nb cb : Nat} (h : Own6 w b d f l n A na ca B nb cb) (j : Nat) : Own6 { w with drawn := j } b d f l n A na ca B nb cb := h
set_option linter.unusedVariables false in
set_option maxRecDepth 100000 in
set_option maxHeartbeats 4000000 in
theorem drawNext_any (w : World) (a : Option Addr) (len cap : Nat) (zs : List Int) (h : IsRow .u8 w a len cap zs) :
    Calls Try.prog 46 #[.slice a len cap] w (DrawnV (fun v => ∃ k : Int, v = .int .i64 k ∧ 0 ≤ k ∧ k < 14) w) := by
  go_enter Try.func46, Try.ntmps46
  go_wp2_with fail
  with_reducible refine (open_any w _ a len cap zs h (h.alloc _) (by simp)).mono ?_
  rintro e w1 ⟨o, rfl, rfl, hr⟩
  simp only [World.size_alloc] at hr
  have hres : Hid (Own6 (World.alloc (w.alloc (.cells #[.string (⟨#[]⟩ : ByteArray), .bool false, .int .i64 0, .int .i64 0, .slice none 0 0, .slice none 0 0] 25)) o) w.heap.size (⟨#[]⟩ : ByteArray) false 0 0 none 0 0 none 0 0) := hid_of ((Own6.newT w _).alloc _)
  have hb1 : Below w.heap.size w (World.alloc (w.alloc (.cells #[.string (⟨#[]⟩ : ByteArray), .bool false, .int .i64 0, .int .i64 0, .slice none 0 0, .slice none 0 0] 25)) o) := ((Below.refl _ w).alloc (Nat.le_refl _) _).alloc (by simp) _
  have hs1 : w.heap.size + 1 + 1 ≤ (World.alloc (w.alloc (.cells #[.string (⟨#[]⟩ : ByteArray), .bool false, .int .i64 0, .int .i64 0, .slice none 0 0, .slice none 0 0] 25)) o).heap.size := by simp
  clear h
  generalize hW1 : World.alloc (World.alloc w _) o = W1 at *
  clear hW1
  go_wp2_with fail
  with_reducible refine (spoilt_any W1 (w.heap.size + 1) 0 hr (by omega)).mono ?_
  rintro e w2 ⟨d, f, l, n', LA, LB, A, ca, B, cb, P, cp, L, rfl, ⟨hd, hA, hB, hL, hP30⟩, hr2, hg2, hI, hJ, hP⟩
  have hs2 := hg2.size
  have hb2 : Below w.heap.size w w2 := below_grown_new hb1 (Nat.le_refl _) hg2 (by omega)
  have hres2 := hid_of (hres.out.far hg2 (by omega))
  clear hr hb1 hres hg2
  go_wp2_with fail
  generalize hW3 : World.alloc w2 _ = W3
  have hres3 : Hid (Own6 W3 w.heap.size (⟨#[]⟩ : ByteArray) false 0 0 none 0 0 none 0 0) := by rw [← hW3]; exact hid_of (hres2.out.alloc _)
  have S : Hid (S4 w W3 (w.heap.size + 1) (0 + 110) w2.heap.size ⟨d, f, l, n', LA, LB⟩ A ca B cb P cp L) := by
    rw [← hW3]
    exact hid_of ⟨hr2.alloc _, hb2.alloc hb2.size _, by omega, by omega, Own6.newT w2 _, (hI.mono (by omega) (Nat.le_refl _)).alloc _, (hJ.mono (by omega) (Nat.le_refl _)).alloc _, (hP.mono (by omega) (Nat.le_refl _)).alloc _⟩
  obtain ⟨xb, hxb⟩ : ∃ b, w2.heap.size = b := ⟨_, rfl⟩
  rw [hxb] at S ⊢
  clear hW3 hxb hb2 hs1 hs2 hres2 hI hJ hP hr2
  have inst : Nonempty (In (fun y => Own6 y xb d f l n' A LA.length ca B LB.length cb)) := ⟨⟨W3, S.out.x⟩⟩
  have u0 := fun z : In (fun y => Own6 y xb d f l n' A LA.length ca B LB.length cb) => z.h.1.1
  have u1 := fun z : In (fun y => Own6 y xb d f l n' A LA.length ca B LB.length cb) => z.h.1.2.1
  have u2 := fun z : In (fun y => Own6 y xb d f l n' A LA.length ca B LB.length cb) => z.h.1.2.2.1
  have u3 := fun z : In (fun y => Own6 y xb d f l n' A LA.length ca B LB.length cb) => z.h.1.2.2.2.1
  have u4 := fun z : In (fun y => Own6 y xb d f l n' A LA.length ca B LB.length cb) => z.h.1.2.2.2.2.1
  have u5 := fun z : In (fun y => Own6 y xb d f l n' A LA.length ca B LB.length cb) => z.h.1.2.2.2.2.2
  refine wp_region_seq (fun y => Own6 y xb d f l n' A LA.length ca B LB.length cb) (fun y => S4 w y (w.heap.size + 1) (0 + 110) xb ⟨d, f, l, n', LA, LB⟩ A ca B cb P cp L ∧ Own6 y w.heap.size (⟨#[]⟩ : ByteArray) false 0 0 none 0 0 none 0 0) [([0, 1], 2), ([], 3)] [4] (by kernel_rfl) (by kernel_rfl) (fun y hy => hy.1.x) (fun j => ⟨S.out.drawn j, hres3.out.drawnN j⟩) ?_
  simp only [Seq, opsAt, List.filterMap_cons, List.filterMap_nil, List.getElem?_cons_zero, List.getElem?_cons_succ]
  repeat (quiet_step (fail))
  refine wpQuiet_nil ?_
  refine ⟨_, rfl, rfl, turns_step2 fun Z hZ w5 h5 => ?_⟩
  clear inst u0 u1 u2 u3 u4 u5
  have S5 := h5.1
  have R5 := hid_of h5.2
  clear h5
  go_simp
  with_reducible refine (S5.pick (by omega) 14 (by omega) (by omega)).mono ?_
  rintro e w6 ⟨v, rfl, hv, S6, hg6⟩
  have S6 := hid_of S6
  have R6 := hid_of (R5.out.far hg6 (by omega))
  clear hg6 S5 R5
  refine hZ (fun y => Own6 y xb d f l n' A LA.length ca B LB.length cb) (fun y => y = w6) _ _ rfl (fun y e => by rw [e]; exact S6.out.x) (fun _ hx => hx) ?_
  clear hZ Z
  refine wpQuiet_nil ?_
  refine ⟨_, rfl, rfl, turns_step2 fun Z hZ w7 h7 => ?_⟩
  subst h7
  obtain ⟨⟨r0, r1, r2, r3, r4, r5⟩, rf⟩ := R6.out
  go_simp
  generalize hW : World.setCell (World.setCell (World.setCell (World.setCell (World.setCell (World.setCell w7 _ _) _ _) _ _) _ _) _ _) _ _ = W8
  have S8 : Hid (S4 w W8 (w.heap.size + 1) (0 + 110 + 1) xb ⟨d, f, l, n', LA, LB⟩ A ca B cb P cp L) := by rw [← hW]; exact hid_of (S6.out.out6 (Nat.le_refl _) (by omega) _ _ _ _ _ _)
  have R8 : Hid (Own6 W8 w.heap.size d f l n' A LA.length ca B LB.length cb) := by rw [← hW]; exact hid_of (R6.out.setAll _ _ _ _ _ _ _ _ _ _)
  clear hW r0 r1 r2 r3 r4 r5 rf S6 R6
  refine hZ (fun y => Own6 y xb d f l n' A LA.length ca B LB.length cb) (fun y => y = W8) _ _ rfl (fun y e => by rw [e]; exact S8.out.x) (fun _ hx => hx) ?_
  clear hZ Z
  have inst : Nonempty (In (fun y => Own6 y xb d f l n' A LA.length ca B LB.length cb)) := ⟨⟨W8, S8.out.x⟩⟩
  repeat (quiet_step (fail))
  refine wpQuiet_nil ?_
  clear inst
  refine seq_last (C := fun y => y = W8) fun w9 e9 => ?_
  subst e9
  go_wp2_with fail
  refine bodyPost_ret (results_sb rfl rfl rfl R8.out) rfl ?_
  exact S8.out.done ⟨hd, hA, hB⟩ ⟨v, rfl, hv⟩
set_option linter.unusedVariables false in
set_option maxRecDepth 100000 in
set_option maxHeartbeats 4000000 in
theorem drawWrite_any (w : World) (a : Option Addr) (len cap : Nat) (zs : List Int) (h : IsRow .u8 w a len cap zs) :
    Calls Try.prog 24 #[.slice a len cap] w (DrawnV (fun v => ∃ D : ByteArray, v = .string D ∧ D.size ≤ 12) w) := by
  go_enter Try.func24, Try.ntmps24
  go_wp2_with fail
  with_reducible refine (open_any w _ a len cap zs h (h.alloc _) (by simp)).mono ?_
  rintro e w1 ⟨o, rfl, rfl, hr⟩
  simp only [World.size_alloc] at hr
  have hres : Hid (Own6 (World.alloc (w.alloc (.cells #[.string (⟨#[]⟩ : ByteArray), .bool false, .int .i64 0, .int .i64 0, .slice none 0 0, .slice none 0 0] 25)) o) w.heap.size (⟨#[]⟩ : ByteArray) false 0 0 none 0 0 none 0 0) := hid_of ((Own6.newT w _).alloc _)
  have hb1 : Below w.heap.size w (World.alloc (w.alloc (.cells #[.string (⟨#[]⟩ : ByteArray), .bool false, .int .i64 0, .int .i64 0, .slice none 0 0, .slice none 0 0] 25)) o) := ((Below.refl _ w).alloc (Nat.le_refl _) _).alloc (by simp) _
  have hs1 : w.heap.size + 1 + 1 ≤ (World.alloc (w.alloc (.cells #[.string (⟨#[]⟩ : ByteArray), .bool false, .int .i64 0, .int .i64 0, .slice none 0 0, .slice none 0 0] 25)) o).heap.size := by simp
  clear h
  generalize hW1 : World.alloc (World.alloc w _) o = W1 at *
  clear hW1
  go_wp2_with fail
  with_reducible refine (spoilt_any W1 (w.heap.size + 1) 0 hr (by omega)).mono ?_
  rintro e w2 ⟨d, f, l, n', LA, LB, A, ca, B, cb, P, cp, L, rfl, ⟨hd, hA, hB, hL, hP30⟩, hr2, hg2, hI, hJ, hP⟩
  have hs2 := hg2.size
  have hb2 : Below w.heap.size w w2 := below_grown_new hb1 (Nat.le_refl _) hg2 (by omega)
  have hres2 := hid_of (hres.out.far hg2 (by omega))
  clear hr hb1 hres hg2
  go_wp2_with fail
  generalize hW3 : World.alloc w2 _ = W3
  have hres3 : Hid (Own6 W3 w.heap.size (⟨#[]⟩ : ByteArray) false 0 0 none 0 0 none 0 0) := by rw [← hW3]; exact hid_of (hres2.out.alloc _)
  have S : Hid (S4 w W3 (w.heap.size + 1) (0 + 110) w2.heap.size ⟨d, f, l, n', LA, LB⟩ A ca B cb P cp L) := by
    rw [← hW3]
    exact hid_of ⟨hr2.alloc _, hb2.alloc hb2.size _, by omega, by omega, Own6.newT w2 _, (hI.mono (by omega) (Nat.le_refl _)).alloc _, (hJ.mono (by omega) (Nat.le_refl _)).alloc _, (hP.mono (by omega) (Nat.le_refl _)).alloc _⟩
  obtain ⟨xb, hxb⟩ : ∃ b, w2.heap.size = b := ⟨_, rfl⟩
  rw [hxb] at S ⊢
  clear hW3 hxb hb2 hs1 hs2 hres2 hI hJ hP hr2
  have inst : Nonempty (In (fun y => Own6 y xb d f l n' A LA.length ca B LB.length cb)) := ⟨⟨W3, S.out.x⟩⟩
  have u0 := fun z : In (fun y => Own6 y xb d f l n' A LA.length ca B LB.length cb) => z.h.1.1
  have u1 := fun z : In (fun y => Own6 y xb d f l n' A LA.length ca B LB.length cb) => z.h.1.2.1
  have u2 := fun z : In (fun y => Own6 y xb d f l n' A LA.length ca B LB.length cb) => z.h.1.2.2.1
  have u3 := fun z : In (fun y => Own6 y xb d f l n' A LA.length ca B LB.length cb) => z.h.1.2.2.2.1
  have u4 := fun z : In (fun y => Own6 y xb d f l n' A LA.length ca B LB.length cb) => z.h.1.2.2.2.2.1
  have u5 := fun z : In (fun y => Own6 y xb d f l n' A LA.length ca B LB.length cb) => z.h.1.2.2.2.2.2
  refine wp_region_seq (fun y => Own6 y xb d f l n' A LA.length ca B LB.length cb) (fun y => S4 w y (w.heap.size + 1) (0 + 110) xb ⟨d, f, l, n', LA, LB⟩ A ca B cb P cp L ∧ Own6 y w.heap.size (⟨#[]⟩ : ByteArray) false 0 0 none 0 0 none 0 0) [([0, 1], 2), ([], 3)] [4] (by kernel_rfl) (by kernel_rfl) (fun y hy => hy.1.x) (fun j => ⟨S.out.drawn j, hres3.out.drawnN j⟩) ?_
  simp only [Seq, opsAt, List.filterMap_cons, List.filterMap_nil, List.getElem?_cons_zero, List.getElem?_cons_succ]
  repeat (quiet_step (fail))
  refine wpQuiet_nil ?_
  refine ⟨_, rfl, rfl, turns_step2 fun Z hZ w5 h5 => ?_⟩
  clear inst u0 u1 u2 u3 u4 u5
  have S5 := h5.1
  have R5 := hid_of h5.2
  clear h5
  go_simp
  with_reducible refine (S5.data (by omega)).mono ?_
  rintro e w6 ⟨v, rfl, hv, S6, hg6⟩
  have S6 := hid_of S6
  have R6 := hid_of (R5.out.far hg6 (by omega))
  clear hg6 S5 R5
  refine hZ (fun y => Own6 y xb d f l n' A LA.length ca B LB.length cb) (fun y => y = w6) _ _ rfl (fun y e => by rw [e]; exact S6.out.x) (fun _ hx => hx) ?_
  clear hZ Z
  refine wpQuiet_nil ?_
  refine ⟨_, rfl, rfl, turns_step2 fun Z hZ w7 h7 => ?_⟩
  subst h7
  obtain ⟨⟨r0, r1, r2, r3, r4, r5⟩, rf⟩ := R6.out
  go_simp
  generalize hW : World.setCell (World.setCell (World.setCell (World.setCell (World.setCell (World.setCell w7 _ _) _ _) _ _) _ _) _ _) _ _ = W8
  have S8 : Hid (S4 w W8 (w.heap.size + 1) (0 + 110 + 1) xb ⟨d, f, l, n', LA, LB⟩ A ca B cb P cp L) := by rw [← hW]; exact hid_of (S6.out.out6 (Nat.le_refl _) (by omega) _ _ _ _ _ _)
  have R8 : Hid (Own6 W8 w.heap.size d f l n' A LA.length ca B LB.length cb) := by rw [← hW]; exact hid_of (R6.out.setAll _ _ _ _ _ _ _ _ _ _)
  clear hW r0 r1 r2 r3 r4 r5 rf S6 R6
  refine hZ (fun y => Own6 y xb d f l n' A LA.length ca B LB.length cb) (fun y => y = W8) _ _ rfl (fun y e => by rw [e]; exact S8.out.x) (fun _ hx => hx) ?_
  clear hZ Z
  have inst : Nonempty (In (fun y => Own6 y xb d f l n' A LA.length ca B LB.length cb)) := ⟨⟨W8, S8.out.x⟩⟩
  repeat (quiet_step (fail))
  refine wpQuiet_nil ?_
  clear inst
  refine seq_last (C := fun y => y = W8) fun w9 e9 => ?_
  subst e9
  go_wp2_with fail
  refine bodyPost_ret (results_sb rfl rfl rfl R8.out) rfl ?_
  exact S8.out.done ⟨hd, hA, hB⟩ ⟨v, rfl, hv⟩

end Go.Proofs.Ytmkmaeblnnfheaa
/- The reference's SendWrite. -/
namespace Go.Proofs.Ytmkmaeblnnfheaa
open Go.RowKit
attribute [local irreducible] Go.wpQuiet

set_option linter.unusedVariables false in
set_option maxRecDepth 100000 in
set_option maxHeartbeats 4000000 in
theorem write_s_bad (d : ByteArray) (f : Bool) (l n : Int) (LA LB : List Rg) (A : Option Addr) (ca : Nat) (B : Option Addr) (cb : Nat) (b : ByteArray) (w : World) (hA : RngAt w A LA.length LA) (hB : RngAt w B LB.length LB) (eA : A = none → ca = 0) (eB : B = none → cb = 0) (hn : LA.length ≤ 2000000) (hn' : LB.length ≤ 2000000) (HV : Hid (okS ⟨d, f, l, n, LA, LB⟩ = false)) :
    Calls Try.prog 26 #[.agg #[.string d, .bool f, .int .i64 l, .int .i64 n, .slice A LA.length ca, .slice B LB.length cb], .string b] w (GotSb w (sd0, false)) := by
  have z := (Own6.new (d := d) (f := f) (l := l) (n := n) (A := A) (na := LA.length) (ca := ca) (B := B) (nb := LB.length) (cb := cb) w).alloc (.cells #[.string (⟨#[]⟩ : ByteArray), .bool false, .int .i64 0, .int .i64 0, .slice none 0 0, .slice none 0 0] 25)
  have r := Own6.new (d := (⟨#[]⟩ : ByteArray)) (f := false) (l := 0) (n := 0) (A := none) (na := 0) (ca := 0) (B := none) (nb := 0) (cb := 0) (w.alloc (.cells #[.string d, .bool f, .int .i64 l, .int .i64 n, .slice A LA.length ca, .slice B LB.length cb] 25))
  rw [show (w.alloc (.cells #[.string d, .bool f, .int .i64 l, .int .i64 n, .slice A LA.length ca, .slice B LB.length cb] 25)).heap.size = w.heap.size + 1 from by simp] at r
  have hW0 : Below w.heap.size w _ := ((Below.refl _ w).alloc (Nat.le_refl _) (.cells #[.string d, .bool f, .int .i64 l, .int .i64 n, .slice A LA.length ca, .slice B LB.length cb] 25)).alloc (by simp) (.cells #[.string (⟨#[]⟩ : ByteArray), .bool false, .int .i64 0, .int .i64 0, .slice none 0 0, .slice none 0 0] 25)
  have hsz : ((w.alloc (.cells #[.string d, .bool f, .int .i64 l, .int .i64 n, .slice A LA.length ca, .slice B LB.length cb] 25)).alloc (.cells #[.string (⟨#[]⟩ : ByteArray), .bool false, .int .i64 0, .int .i64 0, .slice none 0 0, .slice none 0 0] 25)).heap.size = w.heap.size + 1 + 1 := by simp
  have HZ := hid_of z
  have HR := hid_of r
  obtain ⟨⟨z0, z1, z2, z3, z4, z5⟩, zf⟩ := z
  clear r
  go_enter Try.func26, Try.ntmps26
  go_wp2_with (first
    | (go_at_call 61; (with_reducible refine (sv_v_s HV.out _ (hA.below hW0) (hB.below hW0) hn hn').mono ?_); rintro e w1 ⟨rfl, hb1⟩; have HZ1 := hid_of (HZ.out.under hb1 (by omega)); have HR1 := hid_of (HR.out.under hb1 (by omega)); have hw1 := hW0.trans (hb1.mono hW0.size); have hs1 : w.heap.size + 1 + 1 ≤ w1.heap.size := (by have := hb1.size; omega); clear z0 z1 z2 z3 z4 z5 zf hb1; obtain ⟨⟨r0, r1, r2, r3, r4, r5⟩, rf⟩ := HR1.out))
  try simp only [Exit.inBlock, Exit.then]
  refine bodyPost_ret (results_sb rfl rfl rfl (HR1.out.setAll ⟨#[]⟩ false 0 0 none 0 0 none 0 0)) rfl ?_
  refine ⟨⟨_, rfl, got_zero rfl⟩, ?_⟩
  repeat refine Below.setCell ?_ (by dsimp only; omega) _
  exact hw1

set_option linter.unusedVariables false in
set_option maxRecDepth 100000 in
set_option maxHeartbeats 4000000 in
theorem write_s_fin (d : ByteArray) (l n : Int) (LA LB : List Rg) (A : Option Addr) (ca : Nat) (B : Option Addr) (cb : Nat) (b : ByteArray) (w : World) (hA : RngAt w A LA.length LA) (hB : RngAt w B LB.length LB) (eA : A = none → ca = 0) (eB : B = none → cb = 0) (hn : LA.length ≤ 2000000) (hn' : LB.length ≤ 2000000) (HV : Hid (okS ⟨d, true, l, n, LA, LB⟩ = true)) :
    Calls Try.prog 26 #[.agg #[.string d, .bool true, .int .i64 l, .int .i64 n, .slice A LA.length ca, .slice B LB.length cb], .string b] w (GotSb w (⟨d, true, l, n, LA, LB⟩, false)) := by
  have z := (Own6.new (d := d) (f := true) (l := l) (n := n) (A := A) (na := LA.length) (ca := ca) (B := B) (nb := LB.length) (cb := cb) w).alloc (.cells #[.string (⟨#[]⟩ : ByteArray), .bool false, .int .i64 0, .int .i64 0, .slice none 0 0, .slice none 0 0] 25)
  have r := Own6.new (d := (⟨#[]⟩ : ByteArray)) (f := false) (l := 0) (n := 0) (A := none) (na := 0) (ca := 0) (B := none) (nb := 0) (cb := 0) (w.alloc (.cells #[.string d, .bool true, .int .i64 l, .int .i64 n, .slice A LA.length ca, .slice B LB.length cb] 25))
  rw [show (w.alloc (.cells #[.string d, .bool true, .int .i64 l, .int .i64 n, .slice A LA.length ca, .slice B LB.length cb] 25)).heap.size = w.heap.size + 1 from by simp] at r
  have hW0 : Below w.heap.size w _ := ((Below.refl _ w).alloc (Nat.le_refl _) (.cells #[.string d, .bool true, .int .i64 l, .int .i64 n, .slice A LA.length ca, .slice B LB.length cb] 25)).alloc (by simp) (.cells #[.string (⟨#[]⟩ : ByteArray), .bool false, .int .i64 0, .int .i64 0, .slice none 0 0, .slice none 0 0] 25)
  have hsz : ((w.alloc (.cells #[.string d, .bool true, .int .i64 l, .int .i64 n, .slice A LA.length ca, .slice B LB.length cb] 25)).alloc (.cells #[.string (⟨#[]⟩ : ByteArray), .bool false, .int .i64 0, .int .i64 0, .slice none 0 0, .slice none 0 0] 25)).heap.size = w.heap.size + 1 + 1 := by simp
  have HZ := hid_of z
  have HR := hid_of r
  obtain ⟨⟨z0, z1, z2, z3, z4, z5⟩, zf⟩ := z
  clear r
  go_enter Try.func26, Try.ntmps26
  go_wp2_with (first
    | (go_at_call 61; (with_reducible refine (sv_v_s HV.out _ (hA.below hW0) (hB.below hW0) hn hn').mono ?_); rintro e w1 ⟨rfl, hb1⟩; have HZ1 := hid_of (HZ.out.under hb1 (by omega)); have HR1 := hid_of (HR.out.under hb1 (by omega)); have hw1 := hW0.trans (hb1.mono hW0.size); have hs1 : w.heap.size + 1 + 1 ≤ w1.heap.size := (by have := hb1.size; omega); clear z0 z1 z2 z3 z4 z5 zf hb1; obtain ⟨⟨z0, z1, z2, z3, z4, z5⟩, zf⟩ := HZ1.out)
    | (go_at_call 62; (with_reducible refine (copy_s d true l n LA LB A ca B cb _ (hA.below hw1) (hB.below hw1) eA eB (by omega) (by omega)).mono ?_); rintro e w2 ⟨⟨_, rfl, A1, c1, B1, c2, rfl, hI1, hJ1, hap⟩, hb2⟩; have HZ2 := hid_of (HZ1.out.under hb2 (by omega)); have HR2 := hid_of (HR1.out.under hb2 (by omega)); have hw2 := hw1.trans (hb2.mono hw1.size); have hI1 : RngIn w2 (w.heap.size + 1 + 1) w2.heap.size A1 LA.length c1 LA := hI1.mono (by omega) (Nat.le_refl _); have hJ1 : RngIn w2 (w.heap.size + 1 + 1) w2.heap.size B1 LB.length c2 LB := hJ1.mono (by omega) (Nat.le_refl _); have hs2 := hb2.size; have ra0 := fun o => (HR2.out.alloc o).1.1; have ra1 := fun o => (HR2.out.alloc o).1.2.1; have ra2 := fun o => (HR2.out.alloc o).1.2.2.1; have ra3 := fun o => (HR2.out.alloc o).1.2.2.2.1; have ra4 := fun o => (HR2.out.alloc o).1.2.2.2.2.1; have ra5 := fun o => (HR2.out.alloc o).1.2.2.2.2.2; have raf := fun o => (HR2.out.alloc o).2; have za0 := fun o => (HZ2.out.alloc o).1.1; have za1 := fun o => (HZ2.out.alloc o).1.2.1; have za2 := fun o => (HZ2.out.alloc o).1.2.2.1; clear z0 z1 z2 z3 z4 z5 zf hb2))
  try simp only [Exit.inBlock, Exit.then]
  refine bodyPost_ret (results_sb rfl rfl rfl ((HR2.out.alloc _).setAll d true l n A1 LA.length c1 B1 LB.length c2)) rfl ?_
  refine ⟨⟨_, rfl, A1, c1, B1, c2, rfl, ?_, ?_, hap⟩, ?_⟩
  · refine RngIn.mono (B := w.heap.size + 1 + 1) (S := w2.heap.size) ?_ (by omega) (by simp [World.setCell])
    repeat refine RngIn.setLow ?_ (by dsimp only; omega) _
    exact hI1.alloc _
  · refine RngIn.mono (B := w.heap.size + 1 + 1) (S := w2.heap.size) ?_ (by omega) (by simp [World.setCell])
    repeat refine RngIn.setLow ?_ (by dsimp only; omega) _
    exact hJ1.alloc _
  · repeat refine Below.setCell ?_ (by dsimp only; omega) _
    exact ba hw2 _

set_option linter.unusedVariables false in
set_option maxRecDepth 100000 in
set_option maxHeartbeats 4000000 in
theorem write_s_long (d : ByteArray) (l n : Int) (LA LB : List Rg) (A : Option Addr) (ca : Nat) (B : Option Addr) (cb : Nat) (b : ByteArray) (w : World) (hA : RngAt w A LA.length LA) (hB : RngAt w B LB.length LB) (eA : A = none → ca = 0) (eB : B = none → cb = 0) (hn : LA.length ≤ 2000000) (hn' : LB.length ≤ 2000000) (HV : Hid (okS ⟨d, false, l, n, LA, LB⟩ = true)) (h2 : decide ((30 : Int) < (d.size : Int) + (b.size : Int)) = true) (hbs : b.size ≤ 1000000) :
    Calls Try.prog 26 #[.agg #[.string d, .bool false, .int .i64 l, .int .i64 n, .slice A LA.length ca, .slice B LB.length cb], .string b] w (GotSb w (⟨d, false, l, n, LA, LB⟩, false)) := by
  have hd : d.size ≤ 30 := (okS_iff.1 HV.out).len
  have z := (Own6.new (d := d) (f := false) (l := l) (n := n) (A := A) (na := LA.length) (ca := ca) (B := B) (nb := LB.length) (cb := cb) w).alloc (.cells #[.string (⟨#[]⟩ : ByteArray), .bool false, .int .i64 0, .int .i64 0, .slice none 0 0, .slice none 0 0] 25)
  have r := Own6.new (d := (⟨#[]⟩ : ByteArray)) (f := false) (l := 0) (n := 0) (A := none) (na := 0) (ca := 0) (B := none) (nb := 0) (cb := 0) (w.alloc (.cells #[.string d, .bool false, .int .i64 l, .int .i64 n, .slice A LA.length ca, .slice B LB.length cb] 25))
  rw [show (w.alloc (.cells #[.string d, .bool false, .int .i64 l, .int .i64 n, .slice A LA.length ca, .slice B LB.length cb] 25)).heap.size = w.heap.size + 1 from by simp] at r
  have hW0 : Below w.heap.size w _ := ((Below.refl _ w).alloc (Nat.le_refl _) (.cells #[.string d, .bool false, .int .i64 l, .int .i64 n, .slice A LA.length ca, .slice B LB.length cb] 25)).alloc (by simp) (.cells #[.string (⟨#[]⟩ : ByteArray), .bool false, .int .i64 0, .int .i64 0, .slice none 0 0, .slice none 0 0] 25)
  have hsz : ((w.alloc (.cells #[.string d, .bool false, .int .i64 l, .int .i64 n, .slice A LA.length ca, .slice B LB.length cb] 25)).alloc (.cells #[.string (⟨#[]⟩ : ByteArray), .bool false, .int .i64 0, .int .i64 0, .slice none 0 0, .slice none 0 0] 25)).heap.size = w.heap.size + 1 + 1 := by simp
  have HZ := hid_of z
  have HR := hid_of r
  obtain ⟨⟨z0, z1, z2, z3, z4, z5⟩, zf⟩ := z
  clear r
  go_enter Try.func26, Try.ntmps26
  go_wp2_with (first
    | (go_at_call 61; (with_reducible refine (sv_v_s HV.out _ (hA.below hW0) (hB.below hW0) hn hn').mono ?_); rintro e w1 ⟨rfl, hb1⟩; have HZ1 := hid_of (HZ.out.under hb1 (by omega)); have HR1 := hid_of (HR.out.under hb1 (by omega)); have hw1 := hW0.trans (hb1.mono hW0.size); have hs1 : w.heap.size + 1 + 1 ≤ w1.heap.size := (by have := hb1.size; omega); clear z0 z1 z2 z3 z4 z5 zf hb1; obtain ⟨⟨z0, z1, z2, z3, z4, z5⟩, zf⟩ := HZ1.out)
    | (go_at_call 62; (with_reducible refine (copy_s d false l n LA LB A ca B cb _ (hA.below hw1) (hB.below hw1) eA eB (by omega) (by omega)).mono ?_); rintro e w2 ⟨⟨_, rfl, A1, c1, B1, c2, rfl, hI1, hJ1, hap⟩, hb2⟩; have HZ2 := hid_of (HZ1.out.under hb2 (by omega)); have HR2 := hid_of (HR1.out.under hb2 (by omega)); have hw2 := hw1.trans (hb2.mono hw1.size); have hI1 : RngIn w2 (w.heap.size + 1 + 1) w2.heap.size A1 LA.length c1 LA := hI1.mono (by omega) (Nat.le_refl _); have hJ1 : RngIn w2 (w.heap.size + 1 + 1) w2.heap.size B1 LB.length c2 LB := hJ1.mono (by omega) (Nat.le_refl _); have hs2 := hb2.size; have ra0 := fun o => (HR2.out.alloc o).1.1; have ra1 := fun o => (HR2.out.alloc o).1.2.1; have ra2 := fun o => (HR2.out.alloc o).1.2.2.1; have ra3 := fun o => (HR2.out.alloc o).1.2.2.2.1; have ra4 := fun o => (HR2.out.alloc o).1.2.2.2.2.1; have ra5 := fun o => (HR2.out.alloc o).1.2.2.2.2.2; have raf := fun o => (HR2.out.alloc o).2; have za0 := fun o => (HZ2.out.alloc o).1.1; have za1 := fun o => (HZ2.out.alloc o).1.2.1; have za2 := fun o => (HZ2.out.alloc o).1.2.2.1; clear z0 z1 z2 z3 z4 z5 zf hb2))
  try simp only [Exit.inBlock, Exit.then]
  refine bodyPost_ret (results_sb rfl rfl rfl ((HR2.out.alloc _).setAll d false l n A1 LA.length c1 B1 LB.length c2)) rfl ?_
  refine ⟨⟨_, rfl, A1, c1, B1, c2, rfl, ?_, ?_, hap⟩, ?_⟩
  · refine RngIn.mono (B := w.heap.size + 1 + 1) (S := w2.heap.size) ?_ (by omega) (by simp [World.setCell])
    repeat refine RngIn.setLow ?_ (by dsimp only; omega) _
    exact hI1.alloc _
  · refine RngIn.mono (B := w.heap.size + 1 + 1) (S := w2.heap.size) ?_ (by omega) (by simp [World.setCell])
    repeat refine RngIn.setLow ?_ (by dsimp only; omega) _
    exact hJ1.alloc _
  · repeat refine Below.setCell ?_ (by dsimp only; omega) _
    exact ba hw2 _

set_option linter.unusedVariables false in
set_option maxRecDepth 100000 in
set_option maxHeartbeats 4000000 in
theorem write_s_ok (d : ByteArray) (l n : Int) (LA LB : List Rg) (A : Option Addr) (ca : Nat) (B : Option Addr) (cb : Nat) (b : ByteArray) (w : World) (hA : RngAt w A LA.length LA) (hB : RngAt w B LB.length LB) (eA : A = none → ca = 0) (eB : B = none → cb = 0) (hn : LA.length ≤ 2000000) (hn' : LB.length ≤ 2000000) (HV : Hid (okS ⟨d, false, l, n, LA, LB⟩ = true)) (h2 : decide ((30 : Int) < (d.size : Int) + (b.size : Int)) = false) (hbs : b.size ≤ 1000000) :
    Calls Try.prog 26 #[.agg #[.string d, .bool false, .int .i64 l, .int .i64 n, .slice A LA.length ca, .slice B LB.length cb], .string b] w (GotSb w (⟨d ++ b, false, l, n, LA, LB⟩, true)) := by
  have hd : d.size ≤ 30 := (okS_iff.1 HV.out).len
  have z := (Own6.new (d := d) (f := false) (l := l) (n := n) (A := A) (na := LA.length) (ca := ca) (B := B) (nb := LB.length) (cb := cb) w).alloc (.cells #[.string (⟨#[]⟩ : ByteArray), .bool false, .int .i64 0, .int .i64 0, .slice none 0 0, .slice none 0 0] 25)
  have r := Own6.new (d := (⟨#[]⟩ : ByteArray)) (f := false) (l := 0) (n := 0) (A := none) (na := 0) (ca := 0) (B := none) (nb := 0) (cb := 0) (w.alloc (.cells #[.string d, .bool false, .int .i64 l, .int .i64 n, .slice A LA.length ca, .slice B LB.length cb] 25))
  rw [show (w.alloc (.cells #[.string d, .bool false, .int .i64 l, .int .i64 n, .slice A LA.length ca, .slice B LB.length cb] 25)).heap.size = w.heap.size + 1 from by simp] at r
  have hW0 : Below w.heap.size w _ := ((Below.refl _ w).alloc (Nat.le_refl _) (.cells #[.string d, .bool false, .int .i64 l, .int .i64 n, .slice A LA.length ca, .slice B LB.length cb] 25)).alloc (by simp) (.cells #[.string (⟨#[]⟩ : ByteArray), .bool false, .int .i64 0, .int .i64 0, .slice none 0 0, .slice none 0 0] 25)
  have hsz : ((w.alloc (.cells #[.string d, .bool false, .int .i64 l, .int .i64 n, .slice A LA.length ca, .slice B LB.length cb] 25)).alloc (.cells #[.string (⟨#[]⟩ : ByteArray), .bool false, .int .i64 0, .int .i64 0, .slice none 0 0, .slice none 0 0] 25)).heap.size = w.heap.size + 1 + 1 := by simp
  have HZ := hid_of z
  have HR := hid_of r
  obtain ⟨⟨z0, z1, z2, z3, z4, z5⟩, zf⟩ := z
  clear r
  go_enter Try.func26, Try.ntmps26
  go_wp2_with (first
    | (go_at_call 61; (with_reducible refine (sv_v_s HV.out _ (hA.below hW0) (hB.below hW0) hn hn').mono ?_); rintro e w1 ⟨rfl, hb1⟩; have HZ1 := hid_of (HZ.out.under hb1 (by omega)); have HR1 := hid_of (HR.out.under hb1 (by omega)); have hw1 := hW0.trans (hb1.mono hW0.size); have hs1 : w.heap.size + 1 + 1 ≤ w1.heap.size := (by have := hb1.size; omega); clear z0 z1 z2 z3 z4 z5 zf hb1; obtain ⟨⟨z0, z1, z2, z3, z4, z5⟩, zf⟩ := HZ1.out)
    | (go_at_call 62; (with_reducible refine (copy_s d false l n LA LB A ca B cb _ (hA.below hw1) (hB.below hw1) eA eB (by omega) (by omega)).mono ?_); rintro e w2 ⟨⟨_, rfl, A1, c1, B1, c2, rfl, hI1, hJ1, hap⟩, hb2⟩; have HZ2 := hid_of (HZ1.out.under hb2 (by omega)); have HR2 := hid_of (HR1.out.under hb2 (by omega)); have hw2 := hw1.trans (hb2.mono hw1.size); have hI1 : RngIn w2 (w.heap.size + 1 + 1) w2.heap.size A1 LA.length c1 LA := hI1.mono (by omega) (Nat.le_refl _); have hJ1 : RngIn w2 (w.heap.size + 1 + 1) w2.heap.size B1 LB.length c2 LB := hJ1.mono (by omega) (Nat.le_refl _); have hs2 := hb2.size; have ra0 := fun o => (HR2.out.alloc o).1.1; have ra1 := fun o => (HR2.out.alloc o).1.2.1; have ra2 := fun o => (HR2.out.alloc o).1.2.2.1; have ra3 := fun o => (HR2.out.alloc o).1.2.2.2.1; have ra4 := fun o => (HR2.out.alloc o).1.2.2.2.2.1; have ra5 := fun o => (HR2.out.alloc o).1.2.2.2.2.2; have raf := fun o => (HR2.out.alloc o).2; have za0 := fun o => (HZ2.out.alloc o).1.1; have za1 := fun o => (HZ2.out.alloc o).1.2.1; have za2 := fun o => (HZ2.out.alloc o).1.2.2.1; clear z0 z1 z2 z3 z4 z5 zf hb2))
  try simp only [Exit.inBlock, Exit.then]
  refine bodyPost_ret (results_sb rfl rfl rfl ((HR2.out.alloc _).setAll (d ++ b) false l n A1 LA.length c1 B1 LB.length c2)) rfl ?_
  refine ⟨⟨_, rfl, A1, c1, B1, c2, rfl, ?_, ?_, hap⟩, ?_⟩
  · refine RngIn.mono (B := w.heap.size + 1 + 1) (S := w2.heap.size) ?_ (by omega) (by simp [World.setCell])
    repeat refine RngIn.setLow ?_ (by dsimp only; omega) _
    exact hI1.alloc _
  · refine RngIn.mono (B := w.heap.size + 1 + 1) (S := w2.heap.size) ?_ (by omega) (by simp [World.setCell])
    repeat refine RngIn.setLow ?_ (by dsimp only; omega) _
    exact hJ1.alloc _
  · repeat refine Below.setCell ?_ (by dsimp only; omega) _
    exact ba hw2 _

theorem write_s (d : ByteArray) (f : Bool) (l n : Int) (LA LB : List Rg) (A : Option Addr) (ca : Nat) (B : Option Addr) (cb : Nat) (b : ByteArray) (w : World) (hA : RngAt w A LA.length LA) (hB : RngAt w B LB.length LB) (eA : A = none → ca = 0) (eB : B = none → cb = 0) (hn : LA.length ≤ 2000000) (hn' : LB.length ≤ 2000000) (hbs : b.size ≤ 1000000) :
    Calls Try.prog 26 #[.agg #[.string d, .bool f, .int .i64 l, .int .i64 n, .slice A LA.length ca, .slice B LB.length cb], .string b] w (GotSb w (sendWrite ⟨d, f, l, n, LA, LB⟩ b)) := by
  unfold sendWrite
  cases hv : okS ⟨d, f, l, n, LA, LB⟩ with
  | false => rw [if_neg (by decide)]; exact write_s_bad d f l n LA LB A ca B cb b w hA hB eA eB hn hn' hv
  | true =>
    rw [if_pos rfl]
    unfold write
    dsimp only
    cases hf : f with
    | true => rw [if_pos (.inl rfl)]; exact write_s_fin d l n LA LB A ca B cb b w hA hB eA eB hn hn' (hf ▸ hv)
    | false =>
      by_cases hl : 30 < d.size + b.size
      · rw [if_pos (.inr hl)]; exact write_s_long d l n LA LB A ca B cb b w hA hB eA eB hn hn' (hf ▸ hv) (decide_eq_true (by omega)) hbs
      · rw [if_neg (by rintro (e | e); cases e; exact hl e)]; exact write_s_ok d l n LA LB A ca B cb b w hA hB eA eB hn hn' (hf ▸ hv) (decide_eq_false (by omega)) hbs

end Go.Proofs.Ytmkmaeblnnfheaa
/- The program's SendGrant. -/
namespace Go.Proofs.Ytmkmaeblnnfheaa
open Go.RowKit
attribute [local irreducible] Go.wpQuiet

end Go.Proofs.Ytmkmaeblnnfheaa
/- The reference's SendGrant. -/
namespace Go.Proofs.Ytmkmaeblnnfheaa
open Go.RowKit
attribute [local irreducible] Go.wpQuiet

end Go.Proofs.Ytmkmaeblnnfheaa
/- The program's SendFinish. -/
namespace Go.Proofs.Ytmkmaeblnnfheaa
open Go.RowKit
attribute [local irreducible] Go.wpQuiet

/-- What stands while a finished stream is handed back. -/
structure FinC (w : World) (Sz Lo Hi : Nat) (d : ByteArray) (l n : Int) (LA LB : List Rg) (A : Option Addr) (ca : Nat) (B : Option Addr) (cb : Nat) (A1 : Option Addr) (c1 : Nat) (B1 : Option Addr) (c2 : Nat) (w' : World) : Prop where
  z : Own6 w' w.heap.size d false l n A LA.length ca B LB.length cb
  o : Own6 w' Hi d true l n A1 LA.length c1 B1 LB.length c2
  r : ∃ d f l n A na ca B nb cb, Own6 w' (w.heap.size + 1) d f l n A na ca B nb cb
  a : RngIn w' Lo Hi A1 LA.length c1 LA
  b : RngIn w' Lo Hi B1 LB.length c2 LB
  bel : Below w.heap.size w w'
  sz : Sz ≤ w'.heap.size
theorem FinC.store {w w' : World} {Sz Lo Hi : Nat} {d : ByteArray} {l n : Int} {LA LB : List Rg} {A : Option Addr} {ca : Nat} {B : Option Addr} {cb : Nat} {A1 : Option Addr} {c1 : Nat} {B1 : Option Addr} {c2 : Nat} (h : FinC w Sz Lo Hi d l n LA LB A ca B cb A1 c1 B1 c2 w')
    (h1 : w.heap.size + 1 < Lo) (h3 : w.heap.size + 1 ≠ Hi) (d' : ByteArray) (f' : Bool) (l' n' : Int) (A' : Option Addr) (na' ca' : Nat) (B' : Option Addr) (nb' cb' : Nat) :
    FinC w Sz Lo Hi d l n LA LB A ca B cb A1 c1 B1 c2 ((((((w'.setCell ⟨w.heap.size + 1, 0, none⟩ (.string d')).setCell ⟨w.heap.size + 1, 1, none⟩ (.bool f')).setCell ⟨w.heap.size + 1, 2, none⟩ (.int .i64 l')).setCell ⟨w.heap.size + 1, 3, none⟩ (.int .i64 n')).setCell ⟨w.heap.size + 1, 4, none⟩ (.slice A' na' ca')).setCell ⟨w.heap.size + 1, 5, none⟩ (.slice B' nb' cb')) := by
  obtain ⟨x1, x2, x3, x4, x5, x6, x7, x8, x9, x10, xr⟩ := h.r
  refine ⟨?_, ?_, ⟨_, _, _, _, _, _, _, _, _, _, xr.setAll d' f' l' n' A' na' ca' B' nb' cb'⟩, ?_, ?_, ?_, by simpa [World.setCell] using h.sz⟩
  · repeat refine Own6.other ?_ (by dsimp only; omega) _
    exact h.z
  · repeat refine Own6.other ?_ (by dsimp only; omega) _
    exact h.o
  · repeat refine RngIn.setLow ?_ (by dsimp only; omega) _
    exact h.a
  · repeat refine RngIn.setLow ?_ (by dsimp only; omega) _
    exact h.b
  · repeat refine Below.setCell ?_ (by dsimp only; omega) _
    exact h.bel
theorem RngIn.hole {w : World} {B S : Nat} {A : Option Addr} {n c : Nat} {L : List Rg} (h : RngIn w B S A n c L) {p : Addr} (hp : p.block < B ∨ S ≤ p.block) (u : Value) : RngIn (w.setCell p u) B S A n c L :=
  h.touch (((Touch.refl w p.block (p.block + 1)).setCell (Nat.le_refl _) (Nat.lt_succ_self _) u)) (by omega)
set_option linter.unusedVariables false in
set_option maxRecDepth 100000 in
set_option maxHeartbeats 4000000 in
theorem finish_i_bad (d : ByteArray) (f : Bool) (l n : Int) (LA LB : List Rg) (A : Option Addr) (ca : Nat) (B : Option Addr) (cb : Nat)  (w : World) (hA : RngAt w A LA.length LA) (hB : RngAt w B LB.length LB) (eA : A = none → ca = 0) (eB : B = none → cb = 0) (hn : LA.length ≤ 2000000) (hn' : LB.length ≤ 2000000) (HV : Hid (okS ⟨d, f, l, n, LA, LB⟩ = false)) :
    Calls Try.prog 30 #[.agg #[.string d, .bool f, .int .i64 l, .int .i64 n, .slice A LA.length ca, .slice B LB.length cb]] w (GotSb w (sd0, false)) := by
  have z := (Own6.new (d := d) (f := f) (l := l) (n := n) (A := A) (na := LA.length) (ca := ca) (B := B) (nb := LB.length) (cb := cb) w).alloc (.cells #[.string (⟨#[]⟩ : ByteArray), .bool false, .int .i64 0, .int .i64 0, .slice none 0 0, .slice none 0 0] 25)
  have r := Own6.new (d := (⟨#[]⟩ : ByteArray)) (f := false) (l := 0) (n := 0) (A := none) (na := 0) (ca := 0) (B := none) (nb := 0) (cb := 0) (w.alloc (.cells #[.string d, .bool f, .int .i64 l, .int .i64 n, .slice A LA.length ca, .slice B LB.length cb] 25))
  rw [show (w.alloc (.cells #[.string d, .bool f, .int .i64 l, .int .i64 n, .slice A LA.length ca, .slice B LB.length cb] 25)).heap.size = w.heap.size + 1 from by simp] at r
  have hW0 : Below w.heap.size w _ := ((Below.refl _ w).alloc (Nat.le_refl _) (.cells #[.string d, .bool f, .int .i64 l, .int .i64 n, .slice A LA.length ca, .slice B LB.length cb] 25)).alloc (by simp) (.cells #[.string (⟨#[]⟩ : ByteArray), .bool false, .int .i64 0, .int .i64 0, .slice none 0 0, .slice none 0 0] 25)
  have hsz : ((w.alloc (.cells #[.string d, .bool f, .int .i64 l, .int .i64 n, .slice A LA.length ca, .slice B LB.length cb] 25)).alloc (.cells #[.string (⟨#[]⟩ : ByteArray), .bool false, .int .i64 0, .int .i64 0, .slice none 0 0, .slice none 0 0] 25)).heap.size = w.heap.size + 1 + 1 := by simp
  have HZ := hid_of z
  have HR := hid_of r
  obtain ⟨⟨z0, z1, z2, z3, z4, z5⟩, zf⟩ := z
  clear r
  go_enter Try.func30, Try.ntmps30
  go_wp2_with (first
    | (go_at_call 19; (with_reducible refine (sv_v_i HV.out _ (hA.below hW0) (hB.below hW0) hn hn').mono ?_); rintro e w1 ⟨rfl, hb1⟩; have HZ1 := hid_of (HZ.out.under hb1 (by omega)); have HR1 := hid_of (HR.out.under hb1 (by omega)); have hw1 := hW0.trans (hb1.mono hW0.size); have hs1 : w.heap.size + 1 + 1 ≤ w1.heap.size := (by have := hb1.size; omega); clear z0 z1 z2 z3 z4 z5 zf hb1; obtain ⟨⟨r0, r1, r2, r3, r4, r5⟩, rf⟩ := HR1.out))
  try simp only [Exit.inBlock, Exit.then]
  refine bodyPost_ret (results_sb rfl rfl rfl (HR1.out.setAll ⟨#[]⟩ false 0 0 none 0 0 none 0 0)) rfl ?_
  refine ⟨⟨_, rfl, got_zero rfl⟩, ?_⟩
  repeat refine Below.setCell ?_ (by dsimp only; omega) _
  exact hw1

set_option linter.unusedVariables false in
set_option maxRecDepth 100000 in
set_option maxHeartbeats 4000000 in
theorem finish_i_ok (d : ByteArray) (l n : Int) (LA LB : List Rg) (A : Option Addr) (ca : Nat) (B : Option Addr) (cb : Nat)  (w : World) (hA : RngAt w A LA.length LA) (hB : RngAt w B LB.length LB) (eA : A = none → ca = 0) (eB : B = none → cb = 0) (hn : LA.length ≤ 2000000) (hn' : LB.length ≤ 2000000) (HV : Hid (okS ⟨d, false, l, n, LA, LB⟩ = true)) :
    Calls Try.prog 30 #[.agg #[.string d, .bool false, .int .i64 l, .int .i64 n, .slice A LA.length ca, .slice B LB.length cb]] w (GotSb w (⟨d, true, l, n, LA, LB⟩, true)) := by
  have z := (Own6.new (d := d) (f := false) (l := l) (n := n) (A := A) (na := LA.length) (ca := ca) (B := B) (nb := LB.length) (cb := cb) w).alloc (.cells #[.string (⟨#[]⟩ : ByteArray), .bool false, .int .i64 0, .int .i64 0, .slice none 0 0, .slice none 0 0] 25)
  have r := Own6.new (d := (⟨#[]⟩ : ByteArray)) (f := false) (l := 0) (n := 0) (A := none) (na := 0) (ca := 0) (B := none) (nb := 0) (cb := 0) (w.alloc (.cells #[.string d, .bool false, .int .i64 l, .int .i64 n, .slice A LA.length ca, .slice B LB.length cb] 25))
  rw [show (w.alloc (.cells #[.string d, .bool false, .int .i64 l, .int .i64 n, .slice A LA.length ca, .slice B LB.length cb] 25)).heap.size = w.heap.size + 1 from by simp] at r
  have hW0 : Below w.heap.size w _ := ((Below.refl _ w).alloc (Nat.le_refl _) (.cells #[.string d, .bool false, .int .i64 l, .int .i64 n, .slice A LA.length ca, .slice B LB.length cb] 25)).alloc (by simp) (.cells #[.string (⟨#[]⟩ : ByteArray), .bool false, .int .i64 0, .int .i64 0, .slice none 0 0, .slice none 0 0] 25)
  have hsz : ((w.alloc (.cells #[.string d, .bool false, .int .i64 l, .int .i64 n, .slice A LA.length ca, .slice B LB.length cb] 25)).alloc (.cells #[.string (⟨#[]⟩ : ByteArray), .bool false, .int .i64 0, .int .i64 0, .slice none 0 0, .slice none 0 0] 25)).heap.size = w.heap.size + 1 + 1 := by simp
  have HZ := hid_of z
  have HR := hid_of r
  obtain ⟨⟨z0, z1, z2, z3, z4, z5⟩, zf⟩ := z
  clear r
  go_enter Try.func30, Try.ntmps30
  go_wp2_with (first
    | (go_at_call 19; (with_reducible refine (sv_v_i HV.out _ (hA.below hW0) (hB.below hW0) hn hn').mono ?_); rintro e w1 ⟨rfl, hb1⟩; have HZ1 := hid_of (HZ.out.under hb1 (by omega)); have HR1 := hid_of (HR.out.under hb1 (by omega)); have hw1 := hW0.trans (hb1.mono hW0.size); have hs1 : w.heap.size + 1 + 1 ≤ w1.heap.size := (by have := hb1.size; omega); clear z0 z1 z2 z3 z4 z5 zf hb1; obtain ⟨⟨z0, z1, z2, z3, z4, z5⟩, zf⟩ := HZ1.out)
    | (go_at_call 47; (with_reducible refine (copy_i d false l n LA LB A ca B cb _ (hA.below hw1) (hB.below hw1) eA eB (by omega) (by omega)).mono ?_); rintro e w2 ⟨⟨_, rfl, A1, c1, B1, c2, rfl, hI1, hJ1, hap⟩, hb2⟩; have HZ2 := hid_of (HZ1.out.under hb2 (by omega)); have HR2 := hid_of (HR1.out.under hb2 (by omega)); have hw2 := hw1.trans (hb2.mono hw1.size); have hI1 : RngIn w2 (w.heap.size + 1 + 1) w2.heap.size A1 LA.length c1 LA := hI1.mono (by omega) (Nat.le_refl _); have hJ1 : RngIn w2 (w.heap.size + 1 + 1) w2.heap.size B1 LB.length c2 LB := hJ1.mono (by omega) (Nat.le_refl _); have hs2 := hb2.size; have ra0 := fun o => (HR2.out.alloc o).1.1; have ra1 := fun o => (HR2.out.alloc o).1.2.1; have ra2 := fun o => (HR2.out.alloc o).1.2.2.1; have ra3 := fun o => (HR2.out.alloc o).1.2.2.2.1; have ra4 := fun o => (HR2.out.alloc o).1.2.2.2.2.1; have ra5 := fun o => (HR2.out.alloc o).1.2.2.2.2.2; have raf := fun o => (HR2.out.alloc o).2; have za0 := fun o => (HZ2.out.alloc o).1.1; have za1 := fun o => (HZ2.out.alloc o).1.2.1; have za2 := fun o => (HZ2.out.alloc o).1.2.2.1; clear z0 z1 z2 z3 z4 z5 zf hb2))
  generalize hW8 : World.alloc w2 _ = W8
  have hz8 : Own6 W8 w.heap.size d false l n A LA.length ca B LB.length cb := by rw [← hW8]; exact HZ2.out.alloc _
  have hr8 : Own6 W8 (w.heap.size + 1) (⟨#[]⟩ : ByteArray) false 0 0 none 0 0 none 0 0 := by rw [← hW8]; exact HR2.out.alloc _
  have ho8 : Own6 W8 w2.heap.size d true l n A1 LA.length c1 B1 LB.length c2 := by rw [← hW8]; exact Own6.new w2
  have hw8 : Below w.heap.size w W8 := by rw [← hW8]; exact ba hw2 _
  have hs8 : w2.heap.size + 1 ≤ W8.heap.size := by rw [← hW8]; simp
  have hI8 : RngIn W8 (w.heap.size + 1 + 1) w2.heap.size A1 LA.length c1 LA := by rw [← hW8]; exact hI1.alloc _
  have hJ8 : RngIn W8 (w.heap.size + 1 + 1) w2.heap.size B1 LB.length c2 LB := by rw [← hW8]; exact hJ1.alloc _
  clear hW8 hI1 hJ1 ra0 ra1 ra2 ra3 ra4 ra5 raf za0 za1 za2 HZ2 HR2 hw2 HZ1 HR1 hw1 HZ HR
  have hN : FinC w W8.heap.size (w.heap.size + 1 + 1) w2.heap.size d l n LA LB A ca B cb A1 c1 B1 c2 W8 := ⟨hz8, ho8, ⟨_, _, _, _, _, _, _, _, _, _, hr8⟩, hI8, hJ8, hw8, Nat.le_refl _⟩
  have inst : Nonempty (In (FinC w W8.heap.size (w.heap.size + 1 + 1) w2.heap.size d l n LA LB A ca B cb A1 c1 B1 c2)) := ⟨⟨W8, hN⟩⟩
  have u0 := fun y : In (FinC w W8.heap.size (w.heap.size + 1 + 1) w2.heap.size d l n LA LB A ca B cb A1 c1 B1 c2) => y.h.o.1.1
  have u1 := fun y : In (FinC w W8.heap.size (w.heap.size + 1 + 1) w2.heap.size d l n LA LB A ca B cb A1 c1 B1 c2) => y.h.o.1.2.1
  have u2 := fun y : In (FinC w W8.heap.size (w.heap.size + 1 + 1) w2.heap.size d l n LA LB A ca B cb A1 c1 B1 c2) => y.h.o.1.2.2.1
  have u3 := fun y : In (FinC w W8.heap.size (w.heap.size + 1 + 1) w2.heap.size d l n LA LB A ca B cb A1 c1 B1 c2) => y.h.o.1.2.2.2.1
  have u4 := fun y : In (FinC w W8.heap.size (w.heap.size + 1 + 1) w2.heap.size d l n LA LB A ca B cb A1 c1 B1 c2) => y.h.o.1.2.2.2.2.1
  have u5 := fun y : In (FinC w W8.heap.size (w.heap.size + 1 + 1) w2.heap.size d l n LA LB A ca B cb A1 c1 B1 c2) => y.h.o.1.2.2.2.2.2
  have v1 := fun y : In (FinC w W8.heap.size (w.heap.size + 1 + 1) w2.heap.size d l n LA LB A ca B cb A1 c1 B1 c2) => y.h.z.1.2.1
  refine wp_region_cls (FinC w W8.heap.size (w.heap.size + 1 + 1) w2.heap.size d l n LA LB A ca B cb A1 c1 B1 c2) [([0, 1, 2, 3], 4)] [5] (by kernel_rfl) (by kernel_rfl) (fun m => ⟨hN.z, hN.o, hN.r, hN.a, hN.b, ⟨hw8.os, hw8.tape, hw8.output, hw8.size, hw8.block⟩, Nat.le_refl _⟩) ?_
  simp only [Seq, opsAt, List.filterMap_cons, List.filterMap_nil, List.getElem?_cons_zero, List.getElem?_cons_succ]
  repeat (quiet_step (fail))
  refine wpQuiet_nil ?_
  refine ⟨_, rfl, rfl, turns_step fun Z hZ w3 h3 => ?_⟩
  clear u0 u1 u2 u3 u4 u5 v1
  obtain ⟨_, _, _, _, _, _, _, _, _, _, HR3⟩ := h3.r
  have HR4 := hid_of HR3
  obtain ⟨⟨r0, r1, r2, r3, r4, r5⟩, rf⟩ := HR3
  go_simp
  generalize hW4 : World.setCell (World.setCell (World.setCell (World.setCell (World.setCell (World.setCell w3 _ _) _ _) _ _) _ _) _ _) _ _ = W4
  have h5 : FinC w W8.heap.size (w.heap.size + 1 + 1) w2.heap.size d l n LA LB A ca B cb A1 c1 B1 c2 W4 := by rw [← hW4]; exact h3.store (by omega) (by omega) d true l n A1 LA.length c1 B1 LB.length c2
  have hR4 : Own6 W4 (w.heap.size + 1) d true l n A1 LA.length c1 B1 LB.length c2 := by rw [← hW4]; exact HR4.out.setAll d true l n A1 LA.length c1 B1 LB.length c2
  clear hW4 r0 r1 r2 r3 r4 r5 rf HR4
  have HR4 := hid_of hR4
  have H5 := hid_of h5
  clear hR4 h5 h3 hN hz8 ho8 hr8 hI8 hJ8 inst
  have inst : Nonempty (In (fun x => x = W4)) := ⟨⟨W4, rfl⟩⟩
  refine hZ (fun x => x = W4) _ _ rfl (fun x e => by rw [e]; exact H5.out) ?_
  clear hZ Z
  repeat (quiet_step (fail))
  refine wpQuiet_nil ?_
  refine seq_last (C := fun x => x = W4) fun w4 e4 => ?_
  subst e4
  clear inst
  go_wp2_with fail
  try simp only [Exit.inBlock, Exit.then]
  refine bodyPost_ret (results_sb rfl rfl rfl HR4.out) rfl ?_
  have hsz4 := H5.out.sz
  exact ⟨⟨_, rfl, A1, c1, B1, c2, rfl, H5.out.a.mono (by omega) (by omega), H5.out.b.mono (by omega) (by omega), hap⟩, H5.out.bel⟩

end Go.Proofs.Ytmkmaeblnnfheaa
