/- What the walks of the laws about streams carry: streams whose sets can be read, parts, blocks of variables. -/
import Derived.Test.YtmkmaeblnnfheaaMg2
import Derived.Test.YtmkmaeblnnfheaaMg3
import Derived.Test.YtmkmaeblnnfheaaMg4
namespace Go.Proofs.Ytmkmaeblnnfheaa
open Go.RowKit

structure In2 (w : World) (A : Option Addr) (ca : Nat) (LA : List Rg) (B : Option Addr) (cb : Nat) (LB : List Rg) : Prop where
  a : RngAt w A LA.length LA
  b : RngAt w B LB.length LB
  ea : A = none → ca = 0
  eb : B = none → cb = 0
  la : LA.length ≤ ca
  lb : LB.length ≤ cb
theorem In2.grow {w w' : World} {A : Option Addr} {ca : Nat} {LA : List Rg} {B : Option Addr} {cb : Nat} {LB : List Rg} (h : In2 w A ca LA B cb LB) (hb : Below w.heap.size w w') : In2 w' A ca LA B cb LB := ⟨h.a.below hb, h.b.below hb, h.ea, h.eb, h.la, h.lb⟩
theorem In2.of {w : World} {Lo Hi Lo' Hi' : Nat} {A : Option Addr} {ca : Nat} {LA : List Rg} {B : Option Addr} {cb : Nat} {LB : List Rg} (h : RngIn w Lo Hi A LA.length ca LA) (h' : RngIn w Lo' Hi' B LB.length cb LB) : In2 w A ca LA B cb LB := ⟨h.reads, h'.reads, fun e => h.none_cap e, fun e => h'.none_cap e, h.cap.1, h'.cap.1⟩
theorem Own6.grow {w w' : World} {b : Nat} {d : ByteArray} {f : Bool} {l n : Int} {A : Option Addr} {na ca : Nat} {B : Option Addr} {nb cb : Nat} (h : Own6 w b d f l n A na ca B nb cb) (hb : Below w.heap.size w w') : Own6 w' b d f l n A na ca B nb cb := h.under hb h.1.lt
theorem Own3.grow {w w' : World} {b : Nat} {o : Int} {d : ByteArray} {f : Bool} (h : Own3 w b o d f) (hb : Below w.heap.size w w') : Own3 w' b o d f := h.under hb h.lt
theorem Own3.newT2 {w : World} {o : Int} {d : ByteArray} {f : Bool} (x : Obj) (T : TypeId) : Own3 ((w.alloc x).alloc (.cells #[.int .i64 o, .string d, .bool f] T)) (w.heap.size + 1) o d f := by
  have := Own3.newT (o := o) (d := d) (f := f) (w.alloc x) T
  simpa using this
theorem Own6.newL {w w' : World} {d : ByteArray} {f : Bool} {l n m : Int} {A : Option Addr} {na ca : Nat} {B : Option Addr} {nb cb : Nat} (T : TypeId) (h : (w.alloc (.cells #[.string d, .bool f, .int .i64 l, .int .i64 n, .slice A na ca, .slice B nb cb] T)).setCell ⟨w.heap.size, 2, none⟩ (.int .i64 m) = w') : Own6 w' w.heap.size d f m n A na ca B nb cb := by
  rw [← h]
  exact (Own6.newT w T).set2 m
theorem Own6.newD {w w' : World} {d d' : ByteArray} {f : Bool} {l n : Int} {A : Option Addr} {na ca : Nat} {B : Option Addr} {nb cb : Nat} (T : TypeId) (h : (w.alloc (.cells #[.string d, .bool f, .int .i64 l, .int .i64 n, .slice A na ca, .slice B nb cb] T)).setCell ⟨w.heap.size, 0, none⟩ (.string d') = w') : Own6 w' w.heap.size d' f l n A na ca B nb cb := by
  rw [← h]
  exact (Own6.newT w T).set0 d'

theorem IsRow.grow {k : IntKind} {w w' : World} {a : Option Addr} {len cap : Nat} {zs : List Int} (h : IsRow k w a len cap zs) (hb : Below w.heap.size w w') : IsRow k w' a len cap zs := by
  rcases h with h | ⟨x, rfl, hl, hm, hz, hc, hw⟩
  · exact .inl h
  · exact .inr ⟨x, rfl, hl, hm, hz, fun i hi => by
      have h1 := hc i hi
      exact (hb.cell (p := x.add i) (World.block_lt_of_cell? w _ h1)).trans h1, hw⟩
set_option maxHeartbeats 1000000 in
theorem sameE_any (d d' : ByteArray) (hdd : (d.toList == d'.toList) = true) (f : Bool) (l n : Int) (LA LB : List Rg) (A : Option Addr) (ca : Nat) (B : Option Addr) (cb : Nat) (A' : Option Addr) (ca' : Nat) (B' : Option Addr) (cb' : Nat) (w : World) (hA : RngAt w A LA.length LA) (hB : RngAt w B LB.length LB) (hA' : RngAt w A' LA.length LA) (hB' : RngAt w B' LB.length LB) (hn : LA.length ≤ 2000000) (hn' : LB.length ≤ 2000000) :
    Calls Try.prog 16 #[.agg #[.string d, .bool f, .int .i64 l, .int .i64 n, .slice A LA.length ca, .slice B LB.length cb], .agg #[.string d', .bool f, .int .i64 l, .int .i64 n, .slice A' LA.length ca', .slice B' LB.length cb']] w fun e w' => e = .returned (.bool true) ∧ Below w.heap.size w w' := by
  have z := (Own6.new (d := d) (f := f) (l := l) (n := n) (A := A) (na := LA.length) (ca := ca) (B := B) (nb := LB.length) (cb := cb) w).alloc (.cells #[.string d', .bool f, .int .i64 l, .int .i64 n, .slice A' LA.length ca', .slice B' LB.length cb'] 25)
  have y := Own6.new (d := d') (f := f) (l := l) (n := n) (A := A') (na := LA.length) (ca := ca') (B := B') (nb := LB.length) (cb := cb') (w.alloc (.cells #[.string d, .bool f, .int .i64 l, .int .i64 n, .slice A LA.length ca, .slice B LB.length cb] 25))
  rw [show (w.alloc (.cells #[.string d, .bool f, .int .i64 l, .int .i64 n, .slice A LA.length ca, .slice B LB.length cb] 25)).heap.size = w.heap.size + 1 from by simp] at y
  have hW0 : Below w.heap.size w _ := ((Below.refl _ w).alloc (Nat.le_refl _) (.cells #[.string d, .bool f, .int .i64 l, .int .i64 n, .slice A LA.length ca, .slice B LB.length cb] 25)).alloc (by simp) (.cells #[.string d', .bool f, .int .i64 l, .int .i64 n, .slice A' LA.length ca', .slice B' LB.length cb'] 25)
  have hs0 : ((w.alloc (.cells #[.string d, .bool f, .int .i64 l, .int .i64 n, .slice A LA.length ca, .slice B LB.length cb] 25)).alloc (.cells #[.string d', .bool f, .int .i64 l, .int .i64 n, .slice A' LA.length ca', .slice B' LB.length cb'] 25)).heap.size = w.heap.size + 1 + 1 := by simp
  have HZ := hid_of z
  have HY := hid_of y
  obtain ⟨⟨z0, z1, z2, z3, z4, z5⟩, zf⟩ := z
  obtain ⟨⟨y0, y1, y2, y3, y4, y5⟩, yf⟩ := y
  go_enter Try.func16, Try.ntmps16
  go_wp2_with (first
    | (go_at_call_of 52 (Value.slice A LA.length ca); (with_reducible refine (sameR_any A A' LA.length ca ca' LA _ (hA.below hW0) (hA'.below hW0) hn).mono ?_); rintro e w1 ⟨rfl, hb1⟩; obtain ⟨⟨z0, z1, z2, z3, z4, z5⟩, zf⟩ := HZ.out.under hb1 (by omega); obtain ⟨⟨y0, y1, y2, y3, y4, y5⟩, yf⟩ := HY.out.under hb1 (by omega); have hw1 := hW0.trans (hb1.mono hW0.size))
    | (go_at_call_of 52 (Value.slice B LB.length cb); (with_reducible refine (sameR_any B B' LB.length cb cb' LB _ (hB.below hw1) (hB'.below hw1) hn').mono ?_); rintro e w2 ⟨rfl, hb2⟩; have hw2 := hw1.trans (hb2.mono hw1.size)))
  go_ret
  exact ⟨rfl, hw2⟩

set_option maxHeartbeats 1000000 in
/-- Streams with different data are not the same. -/
theorem sameD_any (d d' : ByteArray) (f : Bool) (l n : Int) (LA LB : List Rg) (A : Option Addr) (ca : Nat) (B : Option Addr) (cb : Nat) (A' : Option Addr) (ca' : Nat) (B' : Option Addr) (cb' : Nat) (w : World) (hd : (d.toList == d'.toList) = false) :
    Calls Try.prog 16 #[.agg #[.string d, .bool f, .int .i64 l, .int .i64 n, .slice A LA.length ca, .slice B LB.length cb], .agg #[.string d', .bool f, .int .i64 l, .int .i64 n, .slice A' LA.length ca', .slice B' LB.length cb']] w fun e w' => e = .returned (.bool false) ∧ Below w.heap.size w w' := by
  go_enter Try.func16, Try.ntmps16
  go_wp2_with fail
  go_returns
  exact ⟨rfl, by go_grown⟩
theorem sendGrant_len (s : Sd) (m : Int) : (sendGrant s m).1.A.length ≤ s.A.length ∧ (sendGrant s m).1.L.length ≤ s.L.length := by
  unfold sendGrant
  split
  · split <;> exact ⟨Nat.le_refl _, Nat.le_refl _⟩
  · exact ⟨Nat.zero_le _, Nat.zero_le _⟩
theorem sendGrant_yes {s s1 : Sd} {m : Int} (h : sendGrant s m = (s1, true)) : SV s ∧ s.l ≤ m ∧ m ≤ 30 ∧ { s with l := m } = s1 := by
  unfold sendGrant at h
  split at h
  · rename_i hc
    obtain ⟨h1, h2⟩ := hc
    have h2 := of_decide_eq_true h2
    split at h
    · cases h
    · rename_i h3
      cases h
      exact ⟨okS_iff.1 h1, by omega, h2.2, rfl⟩
  · cases h
theorem sendNext_valid {s : Sd} (h : SV s) {k : Int} (h1 : 1 ≤ k) (h2 : k ≤ 12) : sendNext s k = next s k := by
  unfold sendNext
  rw [if_pos ⟨okS_iff.2 h, decide_eq_true ⟨h1, h2⟩⟩]
theorem grant_after {s : Sd} {m : Int} (h : SV s) (h1 : s.l ≤ m) (h2 : m ≤ 30) (hb : (sendNext s 12).2.2 = true) : (sendNext { s with l := m } 12).2.2 = true := by
  rw [sendNext_valid h (by omega) (by omega)] at hb
  rw [sendNext_valid (h.grant h1 h2) (by omega) (by omega)]
  exact grant_more h (by omega) h1 h2 hb
theorem sendWrite_len (s : Sd) (b : ByteArray) : (sendWrite s b).1.A.length ≤ s.A.length ∧ (sendWrite s b).1.L.length ≤ s.L.length := by
  unfold sendWrite
  split
  · unfold write
    split <;> exact ⟨Nat.le_refl _, Nat.le_refl _⟩
  · exact ⟨Nat.zero_le _, Nat.zero_le _⟩
theorem sendWrite_yes {s s1 : Sd} {b : ByteArray} (h : sendWrite s b = (s1, true)) : SV s ∧ s.f = false ∧ s.d.size + b.size ≤ 30 ∧ { s with d := s.d ++ b } = s1 ∧ SV s1 := by
  unfold sendWrite at h
  split at h
  · rename_i hc
    have h4 := (okS_iff.1 hc).write (b := b)
    unfold write at h h4
    split at h
    · cases h
    · rename_i h3
      rw [if_neg h3] at h4
      cases h
      refine ⟨okS_iff.1 hc, ?_, by omega, rfl, h4⟩
      cases hf : s.f with
      | false => rfl
      | true => exact absurd (.inl hf) h3
  · cases h
theorem sendWrite_fin {s : Sd} {b : ByteArray} (h : SV { s with f := true }) : sendWrite { s with f := true } b = ({ s with f := true }, false) := by
  unfold sendWrite write
  rw [if_pos (okS_iff.2 h), if_pos (.inl rfl)]
theorem sendWrite_no {s s1 : Sd} {b : ByteArray} (hs : SV s) (h : sendWrite s b = (s1, false)) : s = s1 := by
  unfold sendWrite at h
  rw [if_pos (okS_iff.2 hs)] at h
  unfold write at h
  split at h
  · cases h; rfl
  · cases h
/-- Writing in two parts, or in one. -/
theorem write_parts {s s1 x : Sd} {a b : ByteArray} (h : sendWrite s a = (s1, true)) (hx : sendWrite s1 b = (x, true)) : sendWrite s (a ++ b) = (x, true) := by
  obtain ⟨hs, hf, hd, rfl, _⟩ := sendWrite_yes h
  obtain ⟨hs1, hf1, hd1, rfl, _⟩ := sendWrite_yes hx
  dsimp only at hd1
  rw [ByteArray.size_append] at hd1
  unfold sendWrite write
  rw [if_pos (okS_iff.2 hs), if_neg]
  · rw [ByteArray.append_assoc]
  · rintro (e | e)
    · rw [hf] at e; cases e
    · rw [ByteArray.size_append] at e; omega

end Go.Proofs.Ytmkmaeblnnfheaa
