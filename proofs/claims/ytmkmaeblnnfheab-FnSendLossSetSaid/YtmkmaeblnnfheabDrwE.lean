/- A stream and a part that was often sent are drawn. -/
import Derived.Test.YtmkmaeblnnfheabMg6
namespace Go.Proofs.Ytmkmaeblnnfheab
open Go.RowKit
attribute [local irreducible] Go.wpQuiet

section
variable {w wr w' : World} {b : Nat} {o : Int} {d : ByteArray} {f : Bool}
theorem Own3.set0 (h : Own3 w b o d f) (o' : Int) : Own3 (w.setCell ⟨b, 0, none⟩ (.int .i64 o')) b o' d f := by
  obtain ⟨⟨h0, h1, h2⟩, hf⟩ := h
  exact ⟨⟨cell_set w b 0 _ _ h0 0, (cell_set w b 0 _ _ h0 1).trans h1, (cell_set w b 0 _ _ h0 2).trans h2⟩, fun j => (World.frozen?_setCell _ _ _ _).trans (hf j)⟩
theorem Own3.set1 (h : Own3 w b o d f) (d' : ByteArray) : Own3 (w.setCell ⟨b, 1, none⟩ (.string d')) b o d' f := by
  obtain ⟨⟨h0, h1, h2⟩, hf⟩ := h
  exact ⟨⟨(cell_set w b 1 _ _ h1 0).trans h0, cell_set w b 1 _ _ h1 1, (cell_set w b 1 _ _ h1 2).trans h2⟩, fun j => (World.frozen?_setCell _ _ _ _).trans (hf j)⟩
theorem Own3.set2 (h : Own3 w b o d f) (f' : Bool) : Own3 (w.setCell ⟨b, 2, none⟩ (.bool f')) b o d f' := by
  obtain ⟨⟨h0, h1, h2⟩, hf⟩ := h
  exact ⟨⟨(cell_set w b 2 _ _ h2 0).trans h0, (cell_set w b 2 _ _ h2 1).trans h1, cell_set w b 2 _ _ h2 2⟩, fun j => (World.frozen?_setCell _ _ _ _).trans (hf j)⟩
theorem Own3.drawnN (h : Own3 w b o d f) (j : Nat) : Own3 { w with drawn := j } b o d f := h
end
theorem results_sp {w : World} {b : Nat} {d : ByteArray} {f : Bool} {l n : Int} {A : Option Addr} {na ca : Nat} {B : Option Addr} {nb cb : Nat} {fn : Func} {t s : Tmp} {p : Nat} {o : Int} {dp : ByteArray} {fp : Bool} (h : fn.results = #[.cell t 25, .cell s 29]) {tmps : Array Value} (hp : tmps.getD t undef = .pointer (some ⟨b, 0, none⟩)) (hs : tmps.getD s undef = .pointer (some ⟨p, 0, none⟩)) (hx : Own6 w b d f l n A na ca B nb cb) (hy : Own3 w p o dp fp) :
    (results fn tmps).run Try.prog w = .ok (.tuple #[.agg #[.string d, .bool f, .int .i64 l, .int .i64 n, .slice A na ca, .slice B nb cb], .agg #[.int .i64 o, .string dp, .bool fp]]) w := by
  obtain ⟨⟨h0, h1, h2, h3, h4, h5⟩, _⟩ := hx
  obtain ⟨⟨g0, g1, g2⟩, _⟩ := hy
  have hp' : tmps[t]?.getD undef = .pointer (some ⟨b, 0, none⟩) := by simpa using hp
  have hs' : tmps[s]?.getD undef = .pointer (some ⟨p, 0, none⟩) := by simpa using hs
  simp [results, h, hp', hs', go_sem, h0, h1, h2, h3, h4, h5, g0, g1, g2]

structure S5 (w wr : World) (rb m xb pb : Nat) (d : ByteArray) (f : Bool) (l n' : Int) (LA LB : List Rg) (A : Option Addr) (ca : Nat) (B : Option Addr) (cb : Nat) (P : Option Addr) (cp : Nat) (L : List Pt) (o : Int) (D : ByteArray) (g : Bool) : Prop where
  s : S4 w wr rb m xb ⟨d, f, l, n', LA, LB⟩ A ca B cb P cp L
  r6 : Own6 wr w.heap.size (⟨#[]⟩ : ByteArray) false 0 0 none 0 0 none 0 0
  r3 : Own3 wr (w.heap.size + 1) 0 (⟨#[]⟩ : ByteArray) false
  q : Own3 wr pb o D g
  pb : xb < pb
  rb2 : w.heap.size + 1 < rb
/-- A part was drawn. -/
def PartV (v : Value) : Prop := ∃ o D g, v = .agg #[.int .i64 o, .string D, .bool g] ∧ D.size ≤ 30
section
variable {w wr w' : World} {rb m xb pb : Nat} {d : ByteArray} {f : Bool} {l n' : Int} {LA LB : List Rg} {A : Option Addr} {ca : Nat} {B : Option Addr} {cb : Nat} {P : Option Addr} {cp : Nat} {L : List Pt} {o : Int} {D : ByteArray} {g : Bool}
theorem S5.turned (h : S5 w wr rb m xb pb d f l n' LA LB A ca B cb P cp L o D g) {m' : Nat} (s' : S4 w w' rb m' xb ⟨d, f, l, n', LA, LB⟩ A ca B cb P cp L) (hg : wr.grownBy w' (some rb)) : S5 w w' rb m' xb pb d f l n' LA LB A ca B cb P cp L o D g :=
  have h1 := h.pb
  have h2 := h.rb2
  have h3 := h.s.xr
  ⟨s', h.r6.far hg (by omega), h.r3.far hg (by omega), h.q.far hg (by omega), h.pb, h.rb2⟩
theorem S5.pick (h : S5 w wr rb m xb pb d f l n' LA LB A ca B cb P cp L o D g) (hm : m ≤ 1000000) (k : Int) (hk : 1 ≤ k) (hk' : k ≤ 1000000) :
    Calls Try.prog 47 #[.pointer (some ⟨rb, 0, none⟩), .int .i64 k] wr fun e w' => ∃ v : Int, e = .returned (.int .i64 v) ∧ (0 ≤ v ∧ v < k) ∧ S5 w w' rb (m+1) xb pb d f l n' LA LB A ca B cb P cp L o D g ∧ wr.grownBy w' (some rb) :=
  (h.s.pick hm k hk hk').mono fun _ _ ⟨v, he, hv, hs, hg⟩ => ⟨v, he, hv, h.turned hs hg, hg⟩
theorem S5.pickN (h : S5 w wr rb m xb pb d f l n' LA LB A ca B cb P cp L o D g) (hm : m ≤ 1000000) (k : Nat) (hk : 1 ≤ k) (hk' : k ≤ 1000000) :
    Calls Try.prog 47 #[.pointer (some ⟨rb, 0, none⟩), .int .i64 (k : Int)] wr fun e w' => ∃ v : Nat, e = .returned (.int .i64 (v : Int)) ∧ v < k ∧ S5 w w' rb (m+1) xb pb d f l n' LA LB A ca B cb P cp L o D g ∧ wr.grownBy w' (some rb) :=
  (h.pick hm (k : Int) (by omega) (by omega)).mono fun _ _ ⟨v, he, ⟨h0, h1⟩, hs, hg⟩ => by
    obtain ⟨j, rfl⟩ := Int.eq_ofNat_of_zero_le h0
    exact ⟨j, he, by omega, hs, hg⟩
theorem S5.drawn (h : S5 w wr rb m xb pb d f l n' LA LB A ca B cb P cp L o D g) (j : Nat) : S5 w { wr with drawn := j } rb m xb pb d f l n' LA LB A ca B cb P cp L o D g := ⟨h.s.drawn j, h.r6.drawnN j, h.r3.drawnN j, h.q.drawnN j, h.pb, h.rb2⟩
theorem S5.put {o' : Int} {D' : ByteArray} {g' : Bool} (h : S5 w wr rb m xb pb d f l n' LA LB A ca B cb P cp L o D g) (j : Nat) (u : Value) (hq : Own3 (wr.setCell ⟨pb, j, none⟩ u) pb o' D' g') : S5 w (wr.setCell ⟨pb, j, none⟩ u) rb m xb pb d f l n' LA LB A ca B cb P cp L o' D' g' :=
  have h1 := h.pb
  have h2 := h.rb2
  have h3 := h.s.xr
  ⟨h.s.out (by show w.heap.size ≤ pb; omega) (.inr h.pb) u, h.r6.other (by show pb ≠ w.heap.size; omega) u, h.r3.other (by show pb ≠ w.heap.size + 1; omega) u, hq, h.pb, h.rb2⟩
theorem S5.putAll (h : S5 w wr rb m xb pb d f l n' LA LB A ca B cb P cp L o D g) (o' : Int) (D' : ByteArray) (g' : Bool) : S5 w (((wr.setCell ⟨pb, 0, none⟩ (.int .i64 o')).setCell ⟨pb, 1, none⟩ (.string D')).setCell ⟨pb, 2, none⟩ (.bool g')) rb m xb pb d f l n' LA LB A ca B cb P cp L o' D' g' :=
  ((h.put 0 _ (h.q.set0 o')).put 1 _ ((h.q.set0 o').set1 D')).put 2 _ (((h.q.set0 o').set1 D').set2 g')
end

set_option linter.unusedVariables false in
set_option maxRecDepth 100000 in
set_option maxHeartbeats 8000000 in
theorem drawPart_any (w : World) (a : Option Addr) (len cap : Nat) (zs : List Int) (h : IsRow .u8 w a len cap zs) :
    Calls Try.prog 43 #[.slice a len cap] w (DrawnV PartV w) := by
  go_enter Try.func43, Try.ntmps43
  go_wp2_with fail
  with_reducible refine (open_any w _ a len cap zs h ((h.alloc _).alloc _) (by simp; omega)).mono ?_
  rintro e w1 ⟨ob, rfl, rfl, hr⟩
  simp only [World.size_alloc] at hr
  have hres : Hid (Own6 (World.alloc ((w.alloc (.cells #[.string (⟨#[]⟩ : ByteArray), .bool false, .int .i64 0, .int .i64 0, .slice none 0 0, .slice none 0 0] 25)).alloc (.cells #[.int .i64 0, .string (⟨#[]⟩ : ByteArray), .bool false] 29)) ob) w.heap.size (⟨#[]⟩ : ByteArray) false 0 0 none 0 0 none 0 0) := hid_of (((Own6.newT w _).alloc _).alloc _)
  have hres3 : Hid (Own3 (World.alloc ((w.alloc (.cells #[.string (⟨#[]⟩ : ByteArray), .bool false, .int .i64 0, .int .i64 0, .slice none 0 0, .slice none 0 0] 25)).alloc (.cells #[.int .i64 0, .string (⟨#[]⟩ : ByteArray), .bool false] 29)) ob) (w.heap.size + 1) 0 (⟨#[]⟩ : ByteArray) false) := hid_of (by have := (Own3.newT (o := 0) (d := (⟨#[]⟩ : ByteArray)) (f := false) (w.alloc (.cells #[.string (⟨#[]⟩ : ByteArray), .bool false, .int .i64 0, .int .i64 0, .slice none 0 0, .slice none 0 0] 25)) 29).alloc ob; simpa using this)
  have hb1 : Below w.heap.size w (World.alloc ((w.alloc (.cells #[.string (⟨#[]⟩ : ByteArray), .bool false, .int .i64 0, .int .i64 0, .slice none 0 0, .slice none 0 0] 25)).alloc (.cells #[.int .i64 0, .string (⟨#[]⟩ : ByteArray), .bool false] 29)) ob) := (((Below.refl _ w).alloc (Nat.le_refl _) _).alloc (by simp) _).alloc (by simp; omega) _
  have hs1 : w.heap.size + 1 + 1 + 1 ≤ (World.alloc ((w.alloc (.cells #[.string (⟨#[]⟩ : ByteArray), .bool false, .int .i64 0, .int .i64 0, .slice none 0 0, .slice none 0 0] 25)).alloc (.cells #[.int .i64 0, .string (⟨#[]⟩ : ByteArray), .bool false] 29)) ob).heap.size := by simp
  clear h
  generalize hW1 : World.alloc (World.alloc (World.alloc w _) _) ob = W1 at *
  clear hW1
  go_wp2_with fail
  with_reducible refine (spoilt_any W1 (w.heap.size + 1 + 1) 0 hr (by omega)).mono ?_
  rintro e w2 ⟨d, f, l, n', LA, LB, A, ca, B, cb, P, cp, L, rfl, ⟨hd, hA, hB, hL, hP30⟩, hr2, hg2, hI, hJ, hP⟩
  have HP30 := hid_of hP30
  have hs2 := hg2.size
  have hb2 : Below w.heap.size w w2 := below_grown_new hb1 (Nat.le_refl _) hg2 (by omega)
  have hres2 := hid_of (hres.out.far hg2 (by omega))
  have hres32 := hid_of (hres3.out.far hg2 (by omega))
  clear hr hb1 hres hres3 hg2 hP30
  go_wp2_with fail
  generalize hW3 : World.alloc w2 _ = W3
  have hres4 : Hid (Own6 W3 w.heap.size (⟨#[]⟩ : ByteArray) false 0 0 none 0 0 none 0 0) := by rw [← hW3]; exact hid_of (hres2.out.alloc _)
  have hres34 : Hid (Own3 W3 (w.heap.size + 1) 0 (⟨#[]⟩ : ByteArray) false) := by rw [← hW3]; exact hid_of (hres32.out.alloc _)
  have S : Hid (S4 w W3 (w.heap.size + 1 + 1) (0 + 110) w2.heap.size ⟨d, f, l, n', LA, LB⟩ A ca B cb P cp L) := by
    rw [← hW3]
    exact hid_of ⟨hr2.alloc _, hb2.alloc hb2.size _, by omega, by omega, Own6.newT w2 _, (hI.mono (by omega) (Nat.le_refl _)).alloc _, (hJ.mono (by omega) (Nat.le_refl _)).alloc _, (hP.mono (by omega) (Nat.le_refl _)).alloc _⟩
  obtain ⟨xb, hxb⟩ : ∃ b, w2.heap.size = b := ⟨_, rfl⟩
  rw [hxb] at S ⊢
  clear hW3 hxb hb2 hs1 hs2 hres2 hres32 hI hJ hP hr2
  with_reducible refine (S.out.pick (by omega) 33 (by omega) (by omega)).mono ?_
  rintro e w4 ⟨v, rfl, hv, S1, hg1⟩
  have R6 := hid_of (hres4.out.far hg1 (by omega))
  have R3 := hid_of (hres34.out.far hg1 (by omega))
  clear hres4 hres34 S hg1
  go_wp2_with fail
  with_reducible refine (S1.data (by omega)).mono ?_
  rintro e w5 ⟨D, rfl, hD, S2, hg1⟩
  have R6 := hid_of (R6.out.far hg1 (by omega))
  have R3 := hid_of (R3.out.far hg1 (by omega))
  clear S1 hg1
  go_wp2_with fail
  with_reducible refine (S2.pick (by omega) 3 (by omega) (by omega)).mono ?_
  rintro e w6 ⟨u, rfl, hu, S3, hg1⟩
  have R6 := hid_of (R6.out.far hg1 (by omega))
  have R3 := hid_of (R3.out.far hg1 (by omega))
  clear S2 hg1
  go_upto_region 4 with (fail)
  generalize hW : World.alloc w6 _ = w7
  have T : Hid (∃ (o : Int) (g : Bool), S5 w w7 (w.heap.size + 1 + 1) (0 + 110 + 1 + 1 + 1) xb w6.heap.size d f l n' LA LB A ca B cb P cp L o D g) := by
    rw [← hW]
    have h0 := S3.x.1.lt
    exact hid_of ⟨_, _, S3.alloc _, R6.out.alloc _, R3.out.alloc _, Own3.newT _ _, h0, Nat.lt_succ_self _⟩
  have hD : D.size ≤ 30 := by omega
  obtain ⟨pb, hpb⟩ : ∃ b, w6.heap.size = b := ⟨_, rfl⟩
  rw [hpb] at T ⊢
  clear hW hpb R6 R3 S3 hv hu
  obtain ⟨o, g, T⟩ := T.out
  have T := hid_of T
  rcases Nat.eq_zero_or_pos L.length with hL0 | hpos
  · have e1 : ¬ (0 < L.length) := by omega
    have e2 : ¬ ((0 : Int) < (L.length : Int)) := by omega
    clear hL0
    go_upto_region 13 with (fail)
    have inst : Nonempty (In (fun y => Own6 y xb d f l n' A LA.length ca B LB.length cb ∧ Own3 y pb o D g)) := ⟨⟨w7, T.out.s.x, T.out.q⟩⟩
    have u0 := fun z : In (fun y => Own6 y xb d f l n' A LA.length ca B LB.length cb ∧ Own3 y pb o D g) => z.h.1.1.1
    have u1 := fun z : In (fun y => Own6 y xb d f l n' A LA.length ca B LB.length cb ∧ Own3 y pb o D g) => z.h.1.1.2.1
    have u2 := fun z : In (fun y => Own6 y xb d f l n' A LA.length ca B LB.length cb ∧ Own3 y pb o D g) => z.h.1.1.2.2.1
    have u3 := fun z : In (fun y => Own6 y xb d f l n' A LA.length ca B LB.length cb ∧ Own3 y pb o D g) => z.h.1.1.2.2.2.1
    have u4 := fun z : In (fun y => Own6 y xb d f l n' A LA.length ca B LB.length cb ∧ Own3 y pb o D g) => z.h.1.1.2.2.2.2.1
    have u5 := fun z : In (fun y => Own6 y xb d f l n' A LA.length ca B LB.length cb ∧ Own3 y pb o D g) => z.h.1.1.2.2.2.2.2
    have v0 := fun z : In (fun y => Own6 y xb d f l n' A LA.length ca B LB.length cb ∧ Own3 y pb o D g) => z.h.2.1.1
    have v1 := fun z : In (fun y => Own6 y xb d f l n' A LA.length ca B LB.length cb ∧ Own3 y pb o D g) => z.h.2.1.2.1
    have v2 := fun z : In (fun y => Own6 y xb d f l n' A LA.length ca B LB.length cb ∧ Own3 y pb o D g) => z.h.2.1.2.2
    refine wp_region_seq (fun y => Own6 y xb d f l n' A LA.length ca B LB.length cb ∧ Own3 y pb o D g) (fun y => S5 w y (w.heap.size + 1 + 1) (0 + 110 + 1 + 1 + 1) xb pb d f l n' LA LB A ca B cb P cp L o D g) [([0, 1], 2), ([], 3)] [] (by kernel_rfl) (by kernel_rfl) (fun y hy => ⟨hy.s.x, hy.q⟩) (fun j => T.out.drawn j) ?_
    simp only [Seq, opsAt, List.filterMap_cons, List.filterMap_nil, List.getElem?_cons_zero, List.getElem?_cons_succ]
    repeat (quiet_step (fail))
    refine wpQuiet_nil ?_
    refine ⟨_, rfl, rfl, turns_step2 fun Z hZ y5 h5 => ?_⟩
    clear inst u0 u1 u2 u3 u4 u5 v0 v1 v2
    have T5 := hid_of h5
    clear h5 T
    obtain ⟨⟨r0, r1, r2, r3, r4, r5⟩, rf⟩ := T5.out.r6
    go_simp
    generalize hW : World.setCell (World.setCell (World.setCell (World.setCell (World.setCell (World.setCell y5 _ _) _ _) _ _) _ _) _ _) _ _ = y8
    have S8 : Hid (S4 w y8 (w.heap.size + 1 + 1) (0 + 110 + 1 + 1 + 1) xb ⟨d, f, l, n', LA, LB⟩ A ca B cb P cp L) := by rw [← hW]; exact hid_of (T5.out.s.out6 (Nat.le_refl _) (by omega) _ _ _ _ _ _)
    have R8 : Hid (Own6 y8 w.heap.size d f l n' A LA.length ca B LB.length cb) := by rw [← hW]; exact hid_of (T5.out.r6.setAll _ _ _ _ _ _ _ _ _ _)
    have K8 : Hid (Own3 y8 (w.heap.size + 1) 0 (⟨#[]⟩ : ByteArray) false) := by
      rw [← hW]
      repeat refine hid_of (Own3.other ?_ (by show w.heap.size ≠ w.heap.size + 1; omega) _)
      exact T5.out.r3
    have Q8 : Hid (Own3 y8 pb o D g) := by
      have h1 := T5.out.pb
      have h2 := T5.out.s.xr
      have h3 := T5.out.s.rw
      rw [← hW]
      refine hid_of ?_
      repeat refine Own3.other ?_ (by show w.heap.size ≠ pb; omega) _
      exact T5.out.q
    clear hW r0 r1 r2 r3 r4 r5 rf
    refine hZ (fun y => Own6 y xb d f l n' A LA.length ca B LB.length cb ∧ Own3 y pb o D g) (fun y => y = y8) _ _ rfl (fun y e => by rw [e]; exact ⟨S8.out.x, Q8.out⟩) (fun _ hx => hx) ?_
    clear hZ Z
    refine wpQuiet_nil ?_
    refine ⟨_, rfl, rfl, turns_step2 fun Z hZ y9 h9 => ?_⟩
    subst h9
    obtain ⟨⟨q0, q1, q2⟩, qf⟩ := K8.out
    go_simp
    generalize hW : World.setCell (World.setCell (World.setCell y9 _ _) _ _) _ _ = y10
    have S10 : Hid (S4 w y10 (w.heap.size + 1 + 1) (0 + 110 + 1 + 1 + 1) xb ⟨d, f, l, n', LA, LB⟩ A ca B cb P cp L) := by rw [← hW]; exact hid_of (S8.out.out3 (by omega) (by omega) _ _ _)
    have R10 : Hid (Own6 y10 w.heap.size d f l n' A LA.length ca B LB.length cb) := by
      rw [← hW]
      refine hid_of ?_
      repeat refine Own6.other ?_ (by show w.heap.size + 1 ≠ w.heap.size; omega) _
      exact R8.out
    have K10 : Hid (Own3 y10 (w.heap.size + 1) o D g) := by rw [← hW]; exact hid_of (K8.out.setAll _ _ _)
    have Q10 : Hid (Own3 y10 pb o D g) := by
      have h1 := T5.out.pb
      have h2 := T5.out.s.xr
      have h3 := T5.out.s.rw
      rw [← hW]
      refine hid_of ?_
      repeat refine Own3.other ?_ (by show w.heap.size + 1 ≠ pb; omega) _
      exact Q8.out
    clear hW q0 q1 q2 qf
    refine hZ (fun y => Own6 y xb d f l n' A LA.length ca B LB.length cb ∧ Own3 y pb o D g) (fun y => y = y10) _ _ rfl (fun y e => by rw [e]; exact ⟨S10.out.x, Q10.out⟩) (fun _ hx => hx) ?_
    clear hZ Z
    refine wpQuiet_nil ?_
    refine seq_last (C := fun y => y = y10) fun y11 e11 => ?_
    subst e11
    go_wp2_with fail
    refine bodyPost_ret (results_sp rfl rfl rfl R10.out K10.out) rfl ?_
    exact S10.out.done (V := PartV) ⟨hd, hA, hB⟩ ⟨_, _, _, rfl, hD⟩
  have e2 : (0 : Int) < (L.length : Int) := by omega
  go_wp2_with fail
  with_reducible refine (T.out.pick (by omega) 5 (by omega) (by omega)).mono ?_
  rintro e w8 ⟨v, rfl, ⟨hv0, hv1⟩, T8, hg1⟩
  have T := hid_of T8
  clear hg1 T8
  rcases (show v = 0 ∨ 1 ≤ v from by omega) with rfl | hv
  · go_upto_region 13 with (fail)
    have inst : Nonempty (In (fun y => Own6 y xb d f l n' A LA.length ca B LB.length cb ∧ Own3 y pb o D g)) := ⟨⟨w8, T.out.s.x, T.out.q⟩⟩
    have u0 := fun z : In (fun y => Own6 y xb d f l n' A LA.length ca B LB.length cb ∧ Own3 y pb o D g) => z.h.1.1.1
    have u1 := fun z : In (fun y => Own6 y xb d f l n' A LA.length ca B LB.length cb ∧ Own3 y pb o D g) => z.h.1.1.2.1
    have u2 := fun z : In (fun y => Own6 y xb d f l n' A LA.length ca B LB.length cb ∧ Own3 y pb o D g) => z.h.1.1.2.2.1
    have u3 := fun z : In (fun y => Own6 y xb d f l n' A LA.length ca B LB.length cb ∧ Own3 y pb o D g) => z.h.1.1.2.2.2.1
    have u4 := fun z : In (fun y => Own6 y xb d f l n' A LA.length ca B LB.length cb ∧ Own3 y pb o D g) => z.h.1.1.2.2.2.2.1
    have u5 := fun z : In (fun y => Own6 y xb d f l n' A LA.length ca B LB.length cb ∧ Own3 y pb o D g) => z.h.1.1.2.2.2.2.2
    have v0 := fun z : In (fun y => Own6 y xb d f l n' A LA.length ca B LB.length cb ∧ Own3 y pb o D g) => z.h.2.1.1
    have v1 := fun z : In (fun y => Own6 y xb d f l n' A LA.length ca B LB.length cb ∧ Own3 y pb o D g) => z.h.2.1.2.1
    have v2 := fun z : In (fun y => Own6 y xb d f l n' A LA.length ca B LB.length cb ∧ Own3 y pb o D g) => z.h.2.1.2.2
    refine wp_region_seq (fun y => Own6 y xb d f l n' A LA.length ca B LB.length cb ∧ Own3 y pb o D g) (fun y => S5 w y (w.heap.size + 1 + 1) (0 + 110 + 1 + 1 + 1 + 1) xb pb d f l n' LA LB A ca B cb P cp L o D g) [([0, 1], 2), ([], 3)] [] (by kernel_rfl) (by kernel_rfl) (fun y hy => ⟨hy.s.x, hy.q⟩) (fun j => T.out.drawn j) ?_
    simp only [Seq, opsAt, List.filterMap_cons, List.filterMap_nil, List.getElem?_cons_zero, List.getElem?_cons_succ]
    repeat (quiet_step (fail))
    refine wpQuiet_nil ?_
    refine ⟨_, rfl, rfl, turns_step2 fun Z hZ y5 h5 => ?_⟩
    clear inst u0 u1 u2 u3 u4 u5 v0 v1 v2
    have T5 := hid_of h5
    clear h5 T
    obtain ⟨⟨r0, r1, r2, r3, r4, r5⟩, rf⟩ := T5.out.r6
    go_simp
    generalize hW : World.setCell (World.setCell (World.setCell (World.setCell (World.setCell (World.setCell y5 _ _) _ _) _ _) _ _) _ _) _ _ = y8
    have S8 : Hid (S4 w y8 (w.heap.size + 1 + 1) (0 + 110 + 1 + 1 + 1 + 1) xb ⟨d, f, l, n', LA, LB⟩ A ca B cb P cp L) := by rw [← hW]; exact hid_of (T5.out.s.out6 (Nat.le_refl _) (by omega) _ _ _ _ _ _)
    have R8 : Hid (Own6 y8 w.heap.size d f l n' A LA.length ca B LB.length cb) := by rw [← hW]; exact hid_of (T5.out.r6.setAll _ _ _ _ _ _ _ _ _ _)
    have K8 : Hid (Own3 y8 (w.heap.size + 1) 0 (⟨#[]⟩ : ByteArray) false) := by
      rw [← hW]
      repeat refine hid_of (Own3.other ?_ (by show w.heap.size ≠ w.heap.size + 1; omega) _)
      exact T5.out.r3
    have Q8 : Hid (Own3 y8 pb o D g) := by
      have h1 := T5.out.pb
      have h2 := T5.out.s.xr
      have h3 := T5.out.s.rw
      rw [← hW]
      refine hid_of ?_
      repeat refine Own3.other ?_ (by show w.heap.size ≠ pb; omega) _
      exact T5.out.q
    clear hW r0 r1 r2 r3 r4 r5 rf
    refine hZ (fun y => Own6 y xb d f l n' A LA.length ca B LB.length cb ∧ Own3 y pb o D g) (fun y => y = y8) _ _ rfl (fun y e => by rw [e]; exact ⟨S8.out.x, Q8.out⟩) (fun _ hx => hx) ?_
    clear hZ Z
    refine wpQuiet_nil ?_
    refine ⟨_, rfl, rfl, turns_step2 fun Z hZ y9 h9 => ?_⟩
    subst h9
    obtain ⟨⟨q0, q1, q2⟩, qf⟩ := K8.out
    go_simp
    generalize hW : World.setCell (World.setCell (World.setCell y9 _ _) _ _) _ _ = y10
    have S10 : Hid (S4 w y10 (w.heap.size + 1 + 1) (0 + 110 + 1 + 1 + 1 + 1) xb ⟨d, f, l, n', LA, LB⟩ A ca B cb P cp L) := by rw [← hW]; exact hid_of (S8.out.out3 (by omega) (by omega) _ _ _)
    have R10 : Hid (Own6 y10 w.heap.size d f l n' A LA.length ca B LB.length cb) := by
      rw [← hW]
      refine hid_of ?_
      repeat refine Own6.other ?_ (by show w.heap.size + 1 ≠ w.heap.size; omega) _
      exact R8.out
    have K10 : Hid (Own3 y10 (w.heap.size + 1) o D g) := by rw [← hW]; exact hid_of (K8.out.setAll _ _ _)
    have Q10 : Hid (Own3 y10 pb o D g) := by
      have h1 := T5.out.pb
      have h2 := T5.out.s.xr
      have h3 := T5.out.s.rw
      rw [← hW]
      refine hid_of ?_
      repeat refine Own3.other ?_ (by show w.heap.size + 1 ≠ pb; omega) _
      exact Q8.out
    clear hW q0 q1 q2 qf
    refine hZ (fun y => Own6 y xb d f l n' A LA.length ca B LB.length cb ∧ Own3 y pb o D g) (fun y => y = y10) _ _ rfl (fun y e => by rw [e]; exact ⟨S10.out.x, Q10.out⟩) (fun _ hx => hx) ?_
    clear hZ Z
    refine wpQuiet_nil ?_
    refine seq_last (C := fun y => y = y10) fun y11 e11 => ?_
    subst e11
    go_wp2_with fail
    refine bodyPost_ret (results_sp rfl rfl rfl R10.out K10.out) rfl ?_
    exact S10.out.done (V := PartV) ⟨hd, hA, hB⟩ ⟨_, _, _, rfl, hD⟩
  have e3 : (0 : Int) < v := by omega
  go_wp2_with fail
  with_reducible refine (T.out.pickN (by omega) L.length (by omega) (by omega)).mono ?_
  rintro e w9 ⟨j, rfl, hj, T9, hg1⟩
  have T := hid_of T9
  clear hg1 T9
  obtain ⟨gp, eP, _, _, _, hcells⟩ := T.out.s.p.at_ hpos
  obtain ⟨p0, p1, p2⟩ := hcells j hj
  obtain ⟨⟨po, pd, pf⟩, hpt⟩ : ∃ p, pth L j = p := ⟨_, rfl⟩
  have hpd : pd.size ≤ 30 := by have := HP30.out _ (pth_mem hj); rw [hpt] at this; exact this
  rw [hpt] at p0 p1 p2
  dsimp only at p0 p1 p2
  clear hpt hcells
  have hj0 : (0 : Int) ≤ (j : Int) := by omega
  have hj1 : (j : Int) < (L.length : Int) := by omega
  subst eP
  obtain ⟨⟨q0, q1, q2⟩, qf⟩ := T.out.q
  go_upto_region 6 with (fail)
  generalize hW : World.setCell (World.setCell (World.setCell w9 _ _) _ _) _ _ = w10
  have T : Hid (S5 w w10 (w.heap.size + 1 + 1) (0 + 110 + 1 + 1 + 1 + 1 + 1) xb pb d f l n' LA LB A ca B cb (some ⟨gp, 0, none⟩) cp L po pd pf) := by rw [← hW]; exact hid_of (T.out.putAll po pd pf)
  clear hW q0 q1 q2 qf p0 p1 p2 hj0 hj1 hD
  have hD := hpd
  clear hpd
  obtain ⟨o, ho⟩ : ∃ x, x = po := ⟨_, rfl⟩
  obtain ⟨D, hDD⟩ : ∃ x, x = pd := ⟨_, rfl⟩
  obtain ⟨g, hgg⟩ : ∃ x, x = pf := ⟨_, rfl⟩
  subst ho hDD hgg
  go_wp2_with fail
  with_reducible refine (T.out.pick (by omega) 12 (by omega) (by omega)).mono ?_
  rintro e w11 ⟨k, rfl, ⟨hk0, hk1⟩, T11, hg1⟩
  have T := hid_of T11
  clear hg1 T11
  rcases (show k = 0 ∨ k = 1 ∨ k = 2 ∨ 3 ≤ k from by omega) with rfl | rfl | rfl | hk
  · obtain ⟨⟨q0, q1, q2⟩, qf⟩ := T.out.q
    go_upto_region 13 with (fail)
    generalize hW : World.setCell w11 _ _ = w12
    have T' : Hid (∃ g' : Bool, S5 w w12 (w.heap.size + 1 + 1) (0 + 110 + 1 + 1 + 1 + 1 + 1 + 1) xb pb d f l n' LA LB A ca B cb (some ⟨gp, 0, none⟩) cp L o D g') := by rw [← hW]; exact hid_of ⟨_, T.out.put 2 _ (T.out.q.set2 _)⟩
    clear hW q0 q1 q2 qf T
    obtain ⟨g, T⟩ := T'.out
    have T := hid_of T
    go_upto_region 13 with (fail)
    have inst : Nonempty (In (fun y => Own6 y xb d f l n' A LA.length ca B LB.length cb ∧ Own3 y pb o D g)) := ⟨⟨w12, T.out.s.x, T.out.q⟩⟩
    have u0 := fun z : In (fun y => Own6 y xb d f l n' A LA.length ca B LB.length cb ∧ Own3 y pb o D g) => z.h.1.1.1
    have u1 := fun z : In (fun y => Own6 y xb d f l n' A LA.length ca B LB.length cb ∧ Own3 y pb o D g) => z.h.1.1.2.1
    have u2 := fun z : In (fun y => Own6 y xb d f l n' A LA.length ca B LB.length cb ∧ Own3 y pb o D g) => z.h.1.1.2.2.1
    have u3 := fun z : In (fun y => Own6 y xb d f l n' A LA.length ca B LB.length cb ∧ Own3 y pb o D g) => z.h.1.1.2.2.2.1
    have u4 := fun z : In (fun y => Own6 y xb d f l n' A LA.length ca B LB.length cb ∧ Own3 y pb o D g) => z.h.1.1.2.2.2.2.1
    have u5 := fun z : In (fun y => Own6 y xb d f l n' A LA.length ca B LB.length cb ∧ Own3 y pb o D g) => z.h.1.1.2.2.2.2.2
    have v0 := fun z : In (fun y => Own6 y xb d f l n' A LA.length ca B LB.length cb ∧ Own3 y pb o D g) => z.h.2.1.1
    have v1 := fun z : In (fun y => Own6 y xb d f l n' A LA.length ca B LB.length cb ∧ Own3 y pb o D g) => z.h.2.1.2.1
    have v2 := fun z : In (fun y => Own6 y xb d f l n' A LA.length ca B LB.length cb ∧ Own3 y pb o D g) => z.h.2.1.2.2
    refine wp_region_seq (fun y => Own6 y xb d f l n' A LA.length ca B LB.length cb ∧ Own3 y pb o D g) (fun y => S5 w y (w.heap.size + 1 + 1) (0 + 110 + 1 + 1 + 1 + 1 + 1 + 1) xb pb d f l n' LA LB A ca B cb (some ⟨gp, 0, none⟩) cp L o D g) [([0, 1], 2), ([], 3)] [] (by kernel_rfl) (by kernel_rfl) (fun y hy => ⟨hy.s.x, hy.q⟩) (fun j => T.out.drawn j) ?_
    simp only [Seq, opsAt, List.filterMap_cons, List.filterMap_nil, List.getElem?_cons_zero, List.getElem?_cons_succ]
    repeat (quiet_step (fail))
    refine wpQuiet_nil ?_
    refine ⟨_, rfl, rfl, turns_step2 fun Z hZ y5 h5 => ?_⟩
    clear inst u0 u1 u2 u3 u4 u5 v0 v1 v2
    have T5 := hid_of h5
    clear h5 T
    obtain ⟨⟨r0, r1, r2, r3, r4, r5⟩, rf⟩ := T5.out.r6
    go_simp
    generalize hW : World.setCell (World.setCell (World.setCell (World.setCell (World.setCell (World.setCell y5 _ _) _ _) _ _) _ _) _ _) _ _ = y8
    have S8 : Hid (S4 w y8 (w.heap.size + 1 + 1) (0 + 110 + 1 + 1 + 1 + 1 + 1 + 1) xb ⟨d, f, l, n', LA, LB⟩ A ca B cb (some ⟨gp, 0, none⟩) cp L) := by rw [← hW]; exact hid_of (T5.out.s.out6 (Nat.le_refl _) (by omega) _ _ _ _ _ _)
    have R8 : Hid (Own6 y8 w.heap.size d f l n' A LA.length ca B LB.length cb) := by rw [← hW]; exact hid_of (T5.out.r6.setAll _ _ _ _ _ _ _ _ _ _)
    have K8 : Hid (Own3 y8 (w.heap.size + 1) 0 (⟨#[]⟩ : ByteArray) false) := by
      rw [← hW]
      repeat refine hid_of (Own3.other ?_ (by show w.heap.size ≠ w.heap.size + 1; omega) _)
      exact T5.out.r3
    have Q8 : Hid (Own3 y8 pb o D g) := by
      have h1 := T5.out.pb
      have h2 := T5.out.s.xr
      have h3 := T5.out.s.rw
      rw [← hW]
      refine hid_of ?_
      repeat refine Own3.other ?_ (by show w.heap.size ≠ pb; omega) _
      exact T5.out.q
    clear hW r0 r1 r2 r3 r4 r5 rf
    refine hZ (fun y => Own6 y xb d f l n' A LA.length ca B LB.length cb ∧ Own3 y pb o D g) (fun y => y = y8) _ _ rfl (fun y e => by rw [e]; exact ⟨S8.out.x, Q8.out⟩) (fun _ hx => hx) ?_
    clear hZ Z
    refine wpQuiet_nil ?_
    refine ⟨_, rfl, rfl, turns_step2 fun Z hZ y9 h9 => ?_⟩
    subst h9
    obtain ⟨⟨q0, q1, q2⟩, qf⟩ := K8.out
    go_simp
    generalize hW : World.setCell (World.setCell (World.setCell y9 _ _) _ _) _ _ = y10
    have S10 : Hid (S4 w y10 (w.heap.size + 1 + 1) (0 + 110 + 1 + 1 + 1 + 1 + 1 + 1) xb ⟨d, f, l, n', LA, LB⟩ A ca B cb (some ⟨gp, 0, none⟩) cp L) := by rw [← hW]; exact hid_of (S8.out.out3 (by omega) (by omega) _ _ _)
    have R10 : Hid (Own6 y10 w.heap.size d f l n' A LA.length ca B LB.length cb) := by
      rw [← hW]
      refine hid_of ?_
      repeat refine Own6.other ?_ (by show w.heap.size + 1 ≠ w.heap.size; omega) _
      exact R8.out
    have K10 : Hid (Own3 y10 (w.heap.size + 1) o D g) := by rw [← hW]; exact hid_of (K8.out.setAll _ _ _)
    have Q10 : Hid (Own3 y10 pb o D g) := by
      have h1 := T5.out.pb
      have h2 := T5.out.s.xr
      have h3 := T5.out.s.rw
      rw [← hW]
      refine hid_of ?_
      repeat refine Own3.other ?_ (by show w.heap.size + 1 ≠ pb; omega) _
      exact Q8.out
    clear hW q0 q1 q2 qf
    refine hZ (fun y => Own6 y xb d f l n' A LA.length ca B LB.length cb ∧ Own3 y pb o D g) (fun y => y = y10) _ _ rfl (fun y e => by rw [e]; exact ⟨S10.out.x, Q10.out⟩) (fun _ hx => hx) ?_
    clear hZ Z
    refine wpQuiet_nil ?_
    refine seq_last (C := fun y => y = y10) fun y11 e11 => ?_
    subst e11
    go_wp2_with fail
    refine bodyPost_ret (results_sp rfl rfl rfl R10.out K10.out) rfl ?_
    exact S10.out.done (V := PartV) ⟨hd, hA, hB⟩ ⟨_, _, _, rfl, hD⟩
  · go_wp2_with fail
    have inst : Nonempty (In (fun y => Own3 y pb o D g)) := ⟨⟨w11, T.out.q⟩⟩
    have v0 := fun z : In (fun y => Own3 y pb o D g) => z.h.1.1
    refine wp_region_end (fun y => Own3 y pb o D g) (fun y => S5 w y (w.heap.size + 1 + 1) (0 + 110 + 1 + 1 + 1 + 1 + 1 + 1) xb pb d f l n' LA LB A ca B cb (some ⟨gp, 0, none⟩) cp L o D g) [([0, 1, 2], 3)] [4, 5, 6] 7 (by kernel_rfl) (by kernel_rfl) (fun y hy => hy.q) (fun j => T.out.drawn j) ?_
    simp only [SeqE, opsAt, List.filterMap_cons, List.filterMap_nil, List.getElem?_cons_zero, List.getElem?_cons_succ]
    repeat (quiet_step (fail))
    refine wpQuiet_nil ?_
    refine ⟨_, rfl, rfl, turns_step2 fun Z hZ y5 h5 => ?_⟩
    clear inst v0 T
    go_simp
    with_reducible refine (h5.pick (by omega) 3 (by omega) (by omega)).mono ?_
    rintro e y6 ⟨v, rfl, ⟨hv0, hv1⟩, T6, hg6⟩
    have T6 := hid_of T6
    clear hg6 h5
    refine hZ (fun y => Own3 y pb o D g) (fun y => y = y6) _ _ rfl (fun y e => by rw [e]; exact T6.out.q) (fun _ hx => hx) ?_
    clear hZ Z
    have inst : Nonempty (In (fun y => Own3 y pb o D g)) := ⟨⟨y6, T6.out.q⟩⟩
    repeat (quiet_step (fail))
    refine wpQuiet_nil ?_
    refine ⟨_, rfl, rfl, fun y7 h7 => ?_⟩
    subst h7
    clear inst
    obtain ⟨⟨q0, q1, q2⟩, qf⟩ := T6.out.q
    go_simp
    generalize hW : World.setCell y7 _ _ = w12
    have T' : Hid (∃ o' : Int, S5 w w12 (w.heap.size + 1 + 1) (0 + 110 + 1 + 1 + 1 + 1 + 1 + 1 + 1) xb pb d f l n' LA LB A ca B cb (some ⟨gp, 0, none⟩) cp L o' D g) := by rw [← hW]; exact hid_of ⟨_, T6.out.put 0 _ (T6.out.q.set0 _)⟩
    clear hW q0 q1 q2 qf T6
    obtain ⟨o, T⟩ := T'.out
    have T := hid_of T
    go_upto_region 13 with (fail)
    have inst : Nonempty (In (fun y => Own6 y xb d f l n' A LA.length ca B LB.length cb ∧ Own3 y pb o D g)) := ⟨⟨w12, T.out.s.x, T.out.q⟩⟩
    have u0 := fun z : In (fun y => Own6 y xb d f l n' A LA.length ca B LB.length cb ∧ Own3 y pb o D g) => z.h.1.1.1
    have u1 := fun z : In (fun y => Own6 y xb d f l n' A LA.length ca B LB.length cb ∧ Own3 y pb o D g) => z.h.1.1.2.1
    have u2 := fun z : In (fun y => Own6 y xb d f l n' A LA.length ca B LB.length cb ∧ Own3 y pb o D g) => z.h.1.1.2.2.1
    have u3 := fun z : In (fun y => Own6 y xb d f l n' A LA.length ca B LB.length cb ∧ Own3 y pb o D g) => z.h.1.1.2.2.2.1
    have u4 := fun z : In (fun y => Own6 y xb d f l n' A LA.length ca B LB.length cb ∧ Own3 y pb o D g) => z.h.1.1.2.2.2.2.1
    have u5 := fun z : In (fun y => Own6 y xb d f l n' A LA.length ca B LB.length cb ∧ Own3 y pb o D g) => z.h.1.1.2.2.2.2.2
    have v0 := fun z : In (fun y => Own6 y xb d f l n' A LA.length ca B LB.length cb ∧ Own3 y pb o D g) => z.h.2.1.1
    have v1 := fun z : In (fun y => Own6 y xb d f l n' A LA.length ca B LB.length cb ∧ Own3 y pb o D g) => z.h.2.1.2.1
    have v2 := fun z : In (fun y => Own6 y xb d f l n' A LA.length ca B LB.length cb ∧ Own3 y pb o D g) => z.h.2.1.2.2
    refine wp_region_seq (fun y => Own6 y xb d f l n' A LA.length ca B LB.length cb ∧ Own3 y pb o D g) (fun y => S5 w y (w.heap.size + 1 + 1) (0 + 110 + 1 + 1 + 1 + 1 + 1 + 1 + 1) xb pb d f l n' LA LB A ca B cb (some ⟨gp, 0, none⟩) cp L o D g) [([0, 1], 2), ([], 3)] [] (by kernel_rfl) (by kernel_rfl) (fun y hy => ⟨hy.s.x, hy.q⟩) (fun j => T.out.drawn j) ?_
    simp only [Seq, opsAt, List.filterMap_cons, List.filterMap_nil, List.getElem?_cons_zero, List.getElem?_cons_succ]
    repeat (quiet_step (fail))
    refine wpQuiet_nil ?_
    refine ⟨_, rfl, rfl, turns_step2 fun Z hZ y5 h5 => ?_⟩
    clear inst u0 u1 u2 u3 u4 u5 v0 v1 v2
    have T5 := hid_of h5
    clear h5 T
    obtain ⟨⟨r0, r1, r2, r3, r4, r5⟩, rf⟩ := T5.out.r6
    go_simp
    generalize hW : World.setCell (World.setCell (World.setCell (World.setCell (World.setCell (World.setCell y5 _ _) _ _) _ _) _ _) _ _) _ _ = y8
    have S8 : Hid (S4 w y8 (w.heap.size + 1 + 1) (0 + 110 + 1 + 1 + 1 + 1 + 1 + 1 + 1) xb ⟨d, f, l, n', LA, LB⟩ A ca B cb (some ⟨gp, 0, none⟩) cp L) := by rw [← hW]; exact hid_of (T5.out.s.out6 (Nat.le_refl _) (by omega) _ _ _ _ _ _)
    have R8 : Hid (Own6 y8 w.heap.size d f l n' A LA.length ca B LB.length cb) := by rw [← hW]; exact hid_of (T5.out.r6.setAll _ _ _ _ _ _ _ _ _ _)
    have K8 : Hid (Own3 y8 (w.heap.size + 1) 0 (⟨#[]⟩ : ByteArray) false) := by
      rw [← hW]
      repeat refine hid_of (Own3.other ?_ (by show w.heap.size ≠ w.heap.size + 1; omega) _)
      exact T5.out.r3
    have Q8 : Hid (Own3 y8 pb o D g) := by
      have h1 := T5.out.pb
      have h2 := T5.out.s.xr
      have h3 := T5.out.s.rw
      rw [← hW]
      refine hid_of ?_
      repeat refine Own3.other ?_ (by show w.heap.size ≠ pb; omega) _
      exact T5.out.q
    clear hW r0 r1 r2 r3 r4 r5 rf
    refine hZ (fun y => Own6 y xb d f l n' A LA.length ca B LB.length cb ∧ Own3 y pb o D g) (fun y => y = y8) _ _ rfl (fun y e => by rw [e]; exact ⟨S8.out.x, Q8.out⟩) (fun _ hx => hx) ?_
    clear hZ Z
    refine wpQuiet_nil ?_
    refine ⟨_, rfl, rfl, turns_step2 fun Z hZ y9 h9 => ?_⟩
    subst h9
    obtain ⟨⟨q0, q1, q2⟩, qf⟩ := K8.out
    go_simp
    generalize hW : World.setCell (World.setCell (World.setCell y9 _ _) _ _) _ _ = y10
    have S10 : Hid (S4 w y10 (w.heap.size + 1 + 1) (0 + 110 + 1 + 1 + 1 + 1 + 1 + 1 + 1) xb ⟨d, f, l, n', LA, LB⟩ A ca B cb (some ⟨gp, 0, none⟩) cp L) := by rw [← hW]; exact hid_of (S8.out.out3 (by omega) (by omega) _ _ _)
    have R10 : Hid (Own6 y10 w.heap.size d f l n' A LA.length ca B LB.length cb) := by
      rw [← hW]
      refine hid_of ?_
      repeat refine Own6.other ?_ (by show w.heap.size + 1 ≠ w.heap.size; omega) _
      exact R8.out
    have K10 : Hid (Own3 y10 (w.heap.size + 1) o D g) := by rw [← hW]; exact hid_of (K8.out.setAll _ _ _)
    have Q10 : Hid (Own3 y10 pb o D g) := by
      have h1 := T5.out.pb
      have h2 := T5.out.s.xr
      have h3 := T5.out.s.rw
      rw [← hW]
      refine hid_of ?_
      repeat refine Own3.other ?_ (by show w.heap.size + 1 ≠ pb; omega) _
      exact Q8.out
    clear hW q0 q1 q2 qf
    refine hZ (fun y => Own6 y xb d f l n' A LA.length ca B LB.length cb ∧ Own3 y pb o D g) (fun y => y = y10) _ _ rfl (fun y e => by rw [e]; exact ⟨S10.out.x, Q10.out⟩) (fun _ hx => hx) ?_
    clear hZ Z
    refine wpQuiet_nil ?_
    refine seq_last (C := fun y => y = y10) fun y11 e11 => ?_
    subst e11
    go_wp2_with fail
    refine bodyPost_ret (results_sp rfl rfl rfl R10.out K10.out) rfl ?_
    exact S10.out.done (V := PartV) ⟨hd, hA, hB⟩ ⟨_, _, _, rfl, hD⟩
  · obtain ⟨⟨q0, q1, q2⟩, qf⟩ := T.out.q
    have ht : Int.tdiv (D.size : Int) 2 = (D.size : Int) / 2 := Int.tdiv_eq_ediv_of_nonneg (by omega)
    have hq0 : 0 ≤ Int.tdiv (D.size : Int) 2 := by omega
    have hq1 : Int.tdiv (D.size : Int) 2 ≤ (D.size : Int) := by omega
    have hq2 : IntKind.i64.wrap (Int.tdiv (D.size : Int) 2) = Int.tdiv (D.size : Int) 2 := IntWalk.i64_in _ (by omega)
    clear ht
    go_upto_region 13 with (fail)
    generalize hW : World.setCell w11 _ _ = w12
    have T' : Hid (∃ D' : ByteArray, D'.size ≤ 30 ∧ S5 w w12 (w.heap.size + 1 + 1) (0 + 110 + 1 + 1 + 1 + 1 + 1 + 1) xb pb d f l n' LA LB A ca B cb (some ⟨gp, 0, none⟩) cp L o D' g) := by rw [← hW]; exact hid_of ⟨_, by rw [ByteArray.size_extract]; omega, T.out.put 1 _ (T.out.q.set1 _)⟩
    clear hW q0 q1 q2 qf T hq0 hq1 hq2 hD
    obtain ⟨D, hD, T⟩ := T'.out
    have T := hid_of T
    go_upto_region 13 with (fail)
    have inst : Nonempty (In (fun y => Own6 y xb d f l n' A LA.length ca B LB.length cb ∧ Own3 y pb o D g)) := ⟨⟨w12, T.out.s.x, T.out.q⟩⟩
    have u0 := fun z : In (fun y => Own6 y xb d f l n' A LA.length ca B LB.length cb ∧ Own3 y pb o D g) => z.h.1.1.1
    have u1 := fun z : In (fun y => Own6 y xb d f l n' A LA.length ca B LB.length cb ∧ Own3 y pb o D g) => z.h.1.1.2.1
    have u2 := fun z : In (fun y => Own6 y xb d f l n' A LA.length ca B LB.length cb ∧ Own3 y pb o D g) => z.h.1.1.2.2.1
    have u3 := fun z : In (fun y => Own6 y xb d f l n' A LA.length ca B LB.length cb ∧ Own3 y pb o D g) => z.h.1.1.2.2.2.1
    have u4 := fun z : In (fun y => Own6 y xb d f l n' A LA.length ca B LB.length cb ∧ Own3 y pb o D g) => z.h.1.1.2.2.2.2.1
    have u5 := fun z : In (fun y => Own6 y xb d f l n' A LA.length ca B LB.length cb ∧ Own3 y pb o D g) => z.h.1.1.2.2.2.2.2
    have v0 := fun z : In (fun y => Own6 y xb d f l n' A LA.length ca B LB.length cb ∧ Own3 y pb o D g) => z.h.2.1.1
    have v1 := fun z : In (fun y => Own6 y xb d f l n' A LA.length ca B LB.length cb ∧ Own3 y pb o D g) => z.h.2.1.2.1
    have v2 := fun z : In (fun y => Own6 y xb d f l n' A LA.length ca B LB.length cb ∧ Own3 y pb o D g) => z.h.2.1.2.2
    refine wp_region_seq (fun y => Own6 y xb d f l n' A LA.length ca B LB.length cb ∧ Own3 y pb o D g) (fun y => S5 w y (w.heap.size + 1 + 1) (0 + 110 + 1 + 1 + 1 + 1 + 1 + 1) xb pb d f l n' LA LB A ca B cb (some ⟨gp, 0, none⟩) cp L o D g) [([0, 1], 2), ([], 3)] [] (by kernel_rfl) (by kernel_rfl) (fun y hy => ⟨hy.s.x, hy.q⟩) (fun j => T.out.drawn j) ?_
    simp only [Seq, opsAt, List.filterMap_cons, List.filterMap_nil, List.getElem?_cons_zero, List.getElem?_cons_succ]
    repeat (quiet_step (fail))
    refine wpQuiet_nil ?_
    refine ⟨_, rfl, rfl, turns_step2 fun Z hZ y5 h5 => ?_⟩
    clear inst u0 u1 u2 u3 u4 u5 v0 v1 v2
    have T5 := hid_of h5
    clear h5 T
    obtain ⟨⟨r0, r1, r2, r3, r4, r5⟩, rf⟩ := T5.out.r6
    go_simp
    generalize hW : World.setCell (World.setCell (World.setCell (World.setCell (World.setCell (World.setCell y5 _ _) _ _) _ _) _ _) _ _) _ _ = y8
    have S8 : Hid (S4 w y8 (w.heap.size + 1 + 1) (0 + 110 + 1 + 1 + 1 + 1 + 1 + 1) xb ⟨d, f, l, n', LA, LB⟩ A ca B cb (some ⟨gp, 0, none⟩) cp L) := by rw [← hW]; exact hid_of (T5.out.s.out6 (Nat.le_refl _) (by omega) _ _ _ _ _ _)
    have R8 : Hid (Own6 y8 w.heap.size d f l n' A LA.length ca B LB.length cb) := by rw [← hW]; exact hid_of (T5.out.r6.setAll _ _ _ _ _ _ _ _ _ _)
    have K8 : Hid (Own3 y8 (w.heap.size + 1) 0 (⟨#[]⟩ : ByteArray) false) := by
      rw [← hW]
      repeat refine hid_of (Own3.other ?_ (by show w.heap.size ≠ w.heap.size + 1; omega) _)
      exact T5.out.r3
    have Q8 : Hid (Own3 y8 pb o D g) := by
      have h1 := T5.out.pb
      have h2 := T5.out.s.xr
      have h3 := T5.out.s.rw
      rw [← hW]
      refine hid_of ?_
      repeat refine Own3.other ?_ (by show w.heap.size ≠ pb; omega) _
      exact T5.out.q
    clear hW r0 r1 r2 r3 r4 r5 rf
    refine hZ (fun y => Own6 y xb d f l n' A LA.length ca B LB.length cb ∧ Own3 y pb o D g) (fun y => y = y8) _ _ rfl (fun y e => by rw [e]; exact ⟨S8.out.x, Q8.out⟩) (fun _ hx => hx) ?_
    clear hZ Z
    refine wpQuiet_nil ?_
    refine ⟨_, rfl, rfl, turns_step2 fun Z hZ y9 h9 => ?_⟩
    subst h9
    obtain ⟨⟨q0, q1, q2⟩, qf⟩ := K8.out
    go_simp
    generalize hW : World.setCell (World.setCell (World.setCell y9 _ _) _ _) _ _ = y10
    have S10 : Hid (S4 w y10 (w.heap.size + 1 + 1) (0 + 110 + 1 + 1 + 1 + 1 + 1 + 1) xb ⟨d, f, l, n', LA, LB⟩ A ca B cb (some ⟨gp, 0, none⟩) cp L) := by rw [← hW]; exact hid_of (S8.out.out3 (by omega) (by omega) _ _ _)
    have R10 : Hid (Own6 y10 w.heap.size d f l n' A LA.length ca B LB.length cb) := by
      rw [← hW]
      refine hid_of ?_
      repeat refine Own6.other ?_ (by show w.heap.size + 1 ≠ w.heap.size; omega) _
      exact R8.out
    have K10 : Hid (Own3 y10 (w.heap.size + 1) o D g) := by rw [← hW]; exact hid_of (K8.out.setAll _ _ _)
    have Q10 : Hid (Own3 y10 pb o D g) := by
      have h1 := T5.out.pb
      have h2 := T5.out.s.xr
      have h3 := T5.out.s.rw
      rw [← hW]
      refine hid_of ?_
      repeat refine Own3.other ?_ (by show w.heap.size + 1 ≠ pb; omega) _
      exact Q8.out
    clear hW q0 q1 q2 qf
    refine hZ (fun y => Own6 y xb d f l n' A LA.length ca B LB.length cb ∧ Own3 y pb o D g) (fun y => y = y10) _ _ rfl (fun y e => by rw [e]; exact ⟨S10.out.x, Q10.out⟩) (fun _ hx => hx) ?_
    clear hZ Z
    refine wpQuiet_nil ?_
    refine seq_last (C := fun y => y = y10) fun y11 e11 => ?_
    subst e11
    go_wp2_with fail
    refine bodyPost_ret (results_sp rfl rfl rfl R10.out K10.out) rfl ?_
    exact S10.out.done (V := PartV) ⟨hd, hA, hB⟩ ⟨_, _, _, rfl, hD⟩
  · have e0 : (k == 0) = false := by rw [beq_eq_false_iff_ne]; omega
    have e1 : (k == 1) = false := by rw [beq_eq_false_iff_ne]; omega
    have e2' : (k == 2) = false := by rw [beq_eq_false_iff_ne]; omega
    go_upto_region 13 with (fail)
    have inst : Nonempty (In (fun y => Own6 y xb d f l n' A LA.length ca B LB.length cb ∧ Own3 y pb o D g)) := ⟨⟨w11, T.out.s.x, T.out.q⟩⟩
    have u0 := fun z : In (fun y => Own6 y xb d f l n' A LA.length ca B LB.length cb ∧ Own3 y pb o D g) => z.h.1.1.1
    have u1 := fun z : In (fun y => Own6 y xb d f l n' A LA.length ca B LB.length cb ∧ Own3 y pb o D g) => z.h.1.1.2.1
    have u2 := fun z : In (fun y => Own6 y xb d f l n' A LA.length ca B LB.length cb ∧ Own3 y pb o D g) => z.h.1.1.2.2.1
    have u3 := fun z : In (fun y => Own6 y xb d f l n' A LA.length ca B LB.length cb ∧ Own3 y pb o D g) => z.h.1.1.2.2.2.1
    have u4 := fun z : In (fun y => Own6 y xb d f l n' A LA.length ca B LB.length cb ∧ Own3 y pb o D g) => z.h.1.1.2.2.2.2.1
    have u5 := fun z : In (fun y => Own6 y xb d f l n' A LA.length ca B LB.length cb ∧ Own3 y pb o D g) => z.h.1.1.2.2.2.2.2
    have v0 := fun z : In (fun y => Own6 y xb d f l n' A LA.length ca B LB.length cb ∧ Own3 y pb o D g) => z.h.2.1.1
    have v1 := fun z : In (fun y => Own6 y xb d f l n' A LA.length ca B LB.length cb ∧ Own3 y pb o D g) => z.h.2.1.2.1
    have v2 := fun z : In (fun y => Own6 y xb d f l n' A LA.length ca B LB.length cb ∧ Own3 y pb o D g) => z.h.2.1.2.2
    refine wp_region_seq (fun y => Own6 y xb d f l n' A LA.length ca B LB.length cb ∧ Own3 y pb o D g) (fun y => S5 w y (w.heap.size + 1 + 1) (0 + 110 + 1 + 1 + 1 + 1 + 1 + 1) xb pb d f l n' LA LB A ca B cb (some ⟨gp, 0, none⟩) cp L o D g) [([0, 1], 2), ([], 3)] [] (by kernel_rfl) (by kernel_rfl) (fun y hy => ⟨hy.s.x, hy.q⟩) (fun j => T.out.drawn j) ?_
    simp only [Seq, opsAt, List.filterMap_cons, List.filterMap_nil, List.getElem?_cons_zero, List.getElem?_cons_succ]
    repeat (quiet_step (fail))
    refine wpQuiet_nil ?_
    refine ⟨_, rfl, rfl, turns_step2 fun Z hZ y5 h5 => ?_⟩
    clear inst u0 u1 u2 u3 u4 u5 v0 v1 v2
    have T5 := hid_of h5
    clear h5 T
    obtain ⟨⟨r0, r1, r2, r3, r4, r5⟩, rf⟩ := T5.out.r6
    go_simp
    generalize hW : World.setCell (World.setCell (World.setCell (World.setCell (World.setCell (World.setCell y5 _ _) _ _) _ _) _ _) _ _) _ _ = y8
    have S8 : Hid (S4 w y8 (w.heap.size + 1 + 1) (0 + 110 + 1 + 1 + 1 + 1 + 1 + 1) xb ⟨d, f, l, n', LA, LB⟩ A ca B cb (some ⟨gp, 0, none⟩) cp L) := by rw [← hW]; exact hid_of (T5.out.s.out6 (Nat.le_refl _) (by omega) _ _ _ _ _ _)
    have R8 : Hid (Own6 y8 w.heap.size d f l n' A LA.length ca B LB.length cb) := by rw [← hW]; exact hid_of (T5.out.r6.setAll _ _ _ _ _ _ _ _ _ _)
    have K8 : Hid (Own3 y8 (w.heap.size + 1) 0 (⟨#[]⟩ : ByteArray) false) := by
      rw [← hW]
      repeat refine hid_of (Own3.other ?_ (by show w.heap.size ≠ w.heap.size + 1; omega) _)
      exact T5.out.r3
    have Q8 : Hid (Own3 y8 pb o D g) := by
      have h1 := T5.out.pb
      have h2 := T5.out.s.xr
      have h3 := T5.out.s.rw
      rw [← hW]
      refine hid_of ?_
      repeat refine Own3.other ?_ (by show w.heap.size ≠ pb; omega) _
      exact T5.out.q
    clear hW r0 r1 r2 r3 r4 r5 rf
    refine hZ (fun y => Own6 y xb d f l n' A LA.length ca B LB.length cb ∧ Own3 y pb o D g) (fun y => y = y8) _ _ rfl (fun y e => by rw [e]; exact ⟨S8.out.x, Q8.out⟩) (fun _ hx => hx) ?_
    clear hZ Z
    refine wpQuiet_nil ?_
    refine ⟨_, rfl, rfl, turns_step2 fun Z hZ y9 h9 => ?_⟩
    subst h9
    obtain ⟨⟨q0, q1, q2⟩, qf⟩ := K8.out
    go_simp
    generalize hW : World.setCell (World.setCell (World.setCell y9 _ _) _ _) _ _ = y10
    have S10 : Hid (S4 w y10 (w.heap.size + 1 + 1) (0 + 110 + 1 + 1 + 1 + 1 + 1 + 1) xb ⟨d, f, l, n', LA, LB⟩ A ca B cb (some ⟨gp, 0, none⟩) cp L) := by rw [← hW]; exact hid_of (S8.out.out3 (by omega) (by omega) _ _ _)
    have R10 : Hid (Own6 y10 w.heap.size d f l n' A LA.length ca B LB.length cb) := by
      rw [← hW]
      refine hid_of ?_
      repeat refine Own6.other ?_ (by show w.heap.size + 1 ≠ w.heap.size; omega) _
      exact R8.out
    have K10 : Hid (Own3 y10 (w.heap.size + 1) o D g) := by rw [← hW]; exact hid_of (K8.out.setAll _ _ _)
    have Q10 : Hid (Own3 y10 pb o D g) := by
      have h1 := T5.out.pb
      have h2 := T5.out.s.xr
      have h3 := T5.out.s.rw
      rw [← hW]
      refine hid_of ?_
      repeat refine Own3.other ?_ (by show w.heap.size + 1 ≠ pb; omega) _
      exact Q8.out
    clear hW q0 q1 q2 qf
    refine hZ (fun y => Own6 y xb d f l n' A LA.length ca B LB.length cb ∧ Own3 y pb o D g) (fun y => y = y10) _ _ rfl (fun y e => by rw [e]; exact ⟨S10.out.x, Q10.out⟩) (fun _ hx => hx) ?_
    clear hZ Z
    refine wpQuiet_nil ?_
    refine seq_last (C := fun y => y = y10) fun y11 e11 => ?_
    subst e11
    go_wp2_with fail
    refine bodyPost_ret (results_sp rfl rfl rfl R10.out K10.out) rfl ?_
    exact S10.out.done (V := PartV) ⟨hd, hA, hB⟩ ⟨_, _, _, rfl, hD⟩
set_option linter.unusedVariables false in
set_option maxRecDepth 100000 in
set_option maxHeartbeats 2000000 in
theorem drawAck_any (w : World) (a : Option Addr) (len cap : Nat) (zs : List Int) (h : IsRow .u8 w a len cap zs) :
    Calls Try.prog 42 #[.slice a len cap] w (DrawnV PartV w) := by
  go_enter Try.func42, Try.ntmps42
  go_wp2_with fail
  generalize hW0 : World.alloc (World.alloc w _) _ = W0
  have R6 : Hid (Own6 W0 w.heap.size (⟨#[]⟩ : ByteArray) false 0 0 none 0 0 none 0 0) := by rw [← hW0]; exact hid_of ((Own6.newT w _).alloc _)
  have K3 : Hid (Own3 W0 (w.heap.size + 1) 0 (⟨#[]⟩ : ByteArray) false) := by rw [← hW0]; exact hid_of (by have := Own3.newT (o := 0) (d := (⟨#[]⟩ : ByteArray)) (f := false) (w.alloc (.cells #[.string (⟨#[]⟩ : ByteArray), .bool false, .int .i64 0, .int .i64 0, .slice none 0 0, .slice none 0 0] 25)) 29; simpa using this)
  have hb0 : Below w.heap.size w W0 := by rw [← hW0]; exact ((Below.refl w.heap.size w).alloc (Nat.le_refl _) _).alloc (by simp) _
  have hs0 : w.heap.size + 1 + 1 ≤ W0.heap.size := by rw [← hW0]; simp
  have h0 : IsRow .u8 W0 a len cap zs := by rw [← hW0]; exact (h.alloc _).alloc _
  clear hW0 h
  with_reducible refine (drawPart_any W0 a len cap zs h0).mono ?_
  rintro e w1 ⟨d, f, l, n', LA, LB, A, ca, B, cb, _, rfl, ⟨o, D, g, rfl, hD⟩, hb, hI, hJ, hb1⟩
  have R6 := hid_of (R6.out.under hb1 R6.out.1.lt)
  have K3 := hid_of (K3.out.under hb1 K3.out.lt)
  have hs1 := hb1.size
  obtain ⟨⟨r0, r1, r2, r3, r4, r5⟩, rf⟩ := R6.out
  obtain ⟨⟨q0, q1, q2⟩, qf⟩ := K3.out
  go_wp2_with fail
  generalize hW : World.setCell (World.setCell (World.setCell (World.setCell (World.setCell (World.setCell (World.setCell (World.setCell (World.setCell w1 _ _) _ _) _ _) _ _) _ _) _ _) _ _) _ _) _ _ = W2
  have hsz : w1.heap.size = W2.heap.size := by rw [← hW]; simp [World.setCell]
  have Q6 : Own6 W2 w.heap.size d f l n' A LA.length ca B LB.length cb := by
    rw [← hW]
    repeat refine Own6.other ?_ (by show w.heap.size + 1 ≠ w.heap.size; omega) _
    exact R6.out.setAll d f l n' A LA.length ca B LB.length cb
  have Q3 : Own3 W2 (w.heap.size + 1) o D g := by
    rw [← hW]
    refine Own3.setAll (o := 0) (d := (⟨#[]⟩ : ByteArray)) (f := false) ?_ o D g
    repeat refine Own3.other ?_ (by show w.heap.size ≠ w.heap.size + 1; omega) _
    exact K3.out
  have hI2 : RngIn W2 W0.heap.size w1.heap.size A LA.length ca LA := by
    rw [← hW]
    repeat refine RngIn.setLow ?_ (by dsimp only; omega) _
    exact hI
  have hJ2 : RngIn W2 W0.heap.size w1.heap.size B LB.length cb LB := by
    rw [← hW]
    repeat refine RngIn.setLow ?_ (by dsimp only; omega) _
    exact hJ
  have hB2 : Below w.heap.size w W2 := by
    rw [← hW]
    repeat refine Below.setCell ?_ (by dsimp only; omega) _
    exact hb0.trans (hb1.mono hb0.size)
  clear hW
  refine bodyPost_ret (results_sp rfl rfl rfl Q6 Q3) rfl ?_
  exact ⟨d, f, l, n', LA, LB, A, ca, B, cb, _, rfl, ⟨o, D, g, rfl, hD⟩, hb, hI2.mono (by omega) (by omega), hJ2.mono (by omega) (by omega), hB2⟩
set_option linter.unusedVariables false in
set_option maxRecDepth 100000 in
set_option maxHeartbeats 2000000 in
theorem drawLoss_any (w : World) (a : Option Addr) (len cap : Nat) (zs : List Int) (h : IsRow .u8 w a len cap zs) :
    Calls Try.prog 44 #[.slice a len cap] w (DrawnV PartV w) := by
  go_enter Try.func44, Try.ntmps44
  go_wp2_with fail
  generalize hW0 : World.alloc (World.alloc w _) _ = W0
  have R6 : Hid (Own6 W0 w.heap.size (⟨#[]⟩ : ByteArray) false 0 0 none 0 0 none 0 0) := by rw [← hW0]; exact hid_of ((Own6.newT w _).alloc _)
  have K3 : Hid (Own3 W0 (w.heap.size + 1) 0 (⟨#[]⟩ : ByteArray) false) := by rw [← hW0]; exact hid_of (by have := Own3.newT (o := 0) (d := (⟨#[]⟩ : ByteArray)) (f := false) (w.alloc (.cells #[.string (⟨#[]⟩ : ByteArray), .bool false, .int .i64 0, .int .i64 0, .slice none 0 0, .slice none 0 0] 25)) 29; simpa using this)
  have hb0 : Below w.heap.size w W0 := by rw [← hW0]; exact ((Below.refl w.heap.size w).alloc (Nat.le_refl _) _).alloc (by simp) _
  have hs0 : w.heap.size + 1 + 1 ≤ W0.heap.size := by rw [← hW0]; simp
  have h0 : IsRow .u8 W0 a len cap zs := by rw [← hW0]; exact (h.alloc _).alloc _
  clear hW0 h
  with_reducible refine (drawPart_any W0 a len cap zs h0).mono ?_
  rintro e w1 ⟨d, f, l, n', LA, LB, A, ca, B, cb, _, rfl, ⟨o, D, g, rfl, hD⟩, hb, hI, hJ, hb1⟩
  have R6 := hid_of (R6.out.under hb1 R6.out.1.lt)
  have K3 := hid_of (K3.out.under hb1 K3.out.lt)
  have hs1 := hb1.size
  obtain ⟨⟨r0, r1, r2, r3, r4, r5⟩, rf⟩ := R6.out
  obtain ⟨⟨q0, q1, q2⟩, qf⟩ := K3.out
  go_wp2_with fail
  generalize hW : World.setCell (World.setCell (World.setCell (World.setCell (World.setCell (World.setCell (World.setCell (World.setCell (World.setCell w1 _ _) _ _) _ _) _ _) _ _) _ _) _ _) _ _) _ _ = W2
  have hsz : w1.heap.size = W2.heap.size := by rw [← hW]; simp [World.setCell]
  have Q6 : Own6 W2 w.heap.size d f l n' A LA.length ca B LB.length cb := by
    rw [← hW]
    repeat refine Own6.other ?_ (by show w.heap.size + 1 ≠ w.heap.size; omega) _
    exact R6.out.setAll d f l n' A LA.length ca B LB.length cb
  have Q3 : Own3 W2 (w.heap.size + 1) o D g := by
    rw [← hW]
    refine Own3.setAll (o := 0) (d := (⟨#[]⟩ : ByteArray)) (f := false) ?_ o D g
    repeat refine Own3.other ?_ (by show w.heap.size ≠ w.heap.size + 1; omega) _
    exact K3.out
  have hI2 : RngIn W2 W0.heap.size w1.heap.size A LA.length ca LA := by
    rw [← hW]
    repeat refine RngIn.setLow ?_ (by dsimp only; omega) _
    exact hI
  have hJ2 : RngIn W2 W0.heap.size w1.heap.size B LB.length cb LB := by
    rw [← hW]
    repeat refine RngIn.setLow ?_ (by dsimp only; omega) _
    exact hJ
  have hB2 : Below w.heap.size w W2 := by
    rw [← hW]
    repeat refine Below.setCell ?_ (by dsimp only; omega) _
    exact hb0.trans (hb1.mono hb0.size)
  clear hW
  refine bodyPost_ret (results_sp rfl rfl rfl Q6 Q3) rfl ?_
  exact ⟨d, f, l, n', LA, LB, A, ca, B, cb, _, rfl, ⟨o, D, g, rfl, hD⟩, hb, hI2.mono (by omega) (by omega), hJ2.mono (by omega) (by omega), hB2⟩

end Go.Proofs.Ytmkmaeblnnfheab
