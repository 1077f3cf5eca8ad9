/- A stream whose parts were often all acknowledged is drawn: DrawSendDone. -/
import Derived.Test.YtmkmaeblnnfheaaDoneP
import Derived.Test.YtmkmaeblnnfheaaMg6
import Derived.Test.YtmkmaeblnnfheaaMg3
namespace Go.Proofs.Ytmkmaeblnnfheaa
open Go.RowKit
attribute [local irreducible] Go.wpQuiet

section
variable {d : ByteArray} {f : Bool} {l n : Int} {LA LB : List Rg} {A : Option Addr} {ca : Nat} {B : Option Addr} {cb : Nat}
theorem ack_ws {o : Int} {dp : ByteArray} {fp : Bool} {x : Sd} (hx : ack ⟨d, f, l, n, LA, LB⟩ ⟨o, dp, fp⟩ = x) (hs : WS ⟨d, f, l, n, LA, LB⟩) (hp : WP ⟨d, f, l, n, LA, LB⟩ ⟨o, dp, fp⟩) (w : World) (hA : RngAt w A LA.length LA) (hB : RngAt w B LB.length LB) (eA : A = none → ca = 0) (eB : B = none → cb = 0) :
    Calls Try.prog 51 #[.agg #[.string d, .bool f, .int .i64 l, .int .i64 n, .slice A LA.length ca, .slice B LB.length cb], .agg #[.int .i64 o, .string dp, .bool fp]] w fun e w' => (∃ v, e = .returned v ∧ GotSd w x v w') ∧ Below w.heap.size w w' := by
  have h1 := hp.o0
  have h2 := hp.lo
  have h3 := hp.hi
  have h4 := hp.sz
  have h5 := hs.len
  obtain ⟨h6, h7⟩ := hs.few
  dsimp only at h1 h2 h3 h4 h5 h6 h7
  rw [← hx]
  exact l32Ack_w d f l n LA LB A ca B cb o dp fp _ w hA hB eA eB (by omega) (by omega) rfl (by omega) (by omega) (by omega) _ (spec_add hs.ca h2) hs.inv.1.wide
theorem next_ws {k : Int} {x : Sd × Pt × Bool} (hx : next ⟨d, f, l, n, LA, LB⟩ k = x) (hs : WS ⟨d, f, l, n, LA, LB⟩) (hk : 1 ≤ k ∧ k ≤ 1000) (w : World) (hA : RngAt w A LA.length LA) (hB : RngAt w B LB.length LB) (eA : A = none → ca = 0) (eB : B = none → cb = 0) :
    Calls Try.prog 67 #[.agg #[.string d, .bool f, .int .i64 l, .int .i64 n, .slice A LA.length ca, .slice B LB.length cb], .int .i64 k] w (GotNext w x) := by
  have h1 : d.size ≤ 30 := hs.len
  have h2 : 0 ≤ l := hs.l0
  have h3 : l ≤ 30 := hs.l1
  have h4 : 0 ≤ n := hs.n0
  have h5 : n ≤ (d.size : Int) + 1 := hs.n1
  obtain ⟨h6, h7⟩ := hs.few
  dsimp only at h6 h7
  rw [← hx]
  exact next_s d f l n LA LB A ca B cb k w hA hB eA eB (by omega) (by omega) hk (by omega) ⟨by omega, by omega⟩ ⟨h4, by omega⟩ fun r hr => by
    obtain ⟨e1, e2, e3⟩ := hs.low (r := r) hr
    exact ⟨e1, e2, by have : r.hi ≤ (d.size : Int) := e3; omega⟩
end

/-- A set below the stream's block, or above it. -/
def FarIn (w : World) (Lo xb H : Nat) (A : Option Addr) (n c : Nat) (M : List Rg) : Prop := RngIn w Lo xb A n c M ∨ RngIn w (xb + 1) H A n c M
section
variable {w w' : World} {Lo xb H H' rb : Nat} {A : Option Addr} {n c : Nat} {M : List Rg}
theorem FarIn.far (h : FarIn w Lo xb H A n c M) (hg : w.grownBy w' (some rb)) (h1 : rb < Lo) (h2 : rb < xb) : FarIn w' Lo xb H A n c M := h.imp (fun h => h.far hg h1) (fun h => h.far hg (by omega))
theorem FarIn.below (h : FarIn w Lo xb H A n c M) (hb : Below w.heap.size w w') : FarIn w' Lo xb H A n c M := h.imp (fun h => h.below hb) (fun h => h.below hb)
theorem FarIn.hole (h : FarIn w Lo xb H A n c M) {p : Addr} (hp : p.block < Lo ∧ p.block < xb ∨ p.block = xb ∨ H ≤ p.block ∧ xb < p.block) (u : Value) : FarIn (w.setCell p u) Lo xb H A n c M :=
  h.imp (fun h => h.hole (by omega) u) (fun h => h.hole (by omega) u)
theorem FarIn.lift (h : FarIn w Lo xb H A n c M) (hH : H ≤ H') : FarIn w Lo xb H' A n c M := h.imp id (fun h => h.mono (Nat.le_refl _) hH)
theorem FarIn.reads (h : FarIn w Lo xb H A n c M) : RngAt w A n M := h.elim RngIn.reads RngIn.reads
theorem FarIn.none_cap (h : FarIn w Lo xb H A n c M) (e : A = none) : c = 0 := h.elim (fun h => h.none_cap e) (fun h => h.none_cap e)
theorem FarIn.all (h : FarIn w Lo xb H A n c M) {S B : Nat} (h1 : B ≤ Lo) (h2 : B ≤ xb) (h3 : xb ≤ S) (h4 : H ≤ S) : RngIn w B S A n c M := h.elim (fun h => h.mono h1 h3) (fun h => h.mono (by omega) h4)
theorem FarIn.drawnN (h : FarIn w Lo xb H A n c M) (j : Nat) : FarIn { w with drawn := j } Lo xb H A n c M := h
end

structure SE (w wr : World) (H rb m xb : Nat) (s : Sd) (A : Option Addr) (ca : Nat) (B : Option Addr) (cb : Nat) (P : Option Addr) (cp : Nat) (L : List Pt) : Prop where
  rd : Rd wr w.heap.size rb m
  bw : Below w.heap.size w wr
  res : Own6 wr w.heap.size (⟨#[]⟩ : ByteArray) false 0 0 none 0 0 none 0 0
  rw : w.heap.size < rb
  xr : rb < xb
  xH : xb < H
  hH : H ≤ wr.heap.size
  x : Own6 wr xb s.d s.f s.l s.n A s.A.length ca B s.L.length cb
  a : FarIn wr (rb + 1) xb H A s.A.length ca s.A
  b : FarIn wr (rb + 1) xb H B s.L.length cb s.L
  p : PrtIn wr (rb + 1) xb P L.length cp L
section
variable {w wr w' : World} {H rb m xb : Nat} {s : Sd} {A : Option Addr} {ca : Nat} {B : Option Addr} {cb : Nat} {P : Option Addr} {cp : Nat} {L : List Pt}
theorem SE.turned (h : SE w wr H rb m xb s A ca B cb P cp L) {m' : Nat} (hr : Rd w' w.heap.size rb m') (hg : wr.grownBy w' (some rb)) : SE w w' H rb m' xb s A ca B cb P cp L :=
  have h1 := h.rw
  have h2 := h.xr
  ⟨hr, below_grown_new h.bw (Nat.le_refl _) hg (by omega), h.res.far hg (by omega), h.rw, h.xr, h.xH, Nat.le_trans h.hH hg.size, h.x.far hg (by omega), h.a.far hg (by omega) h2, h.b.far hg (by omega) h2, h.p.far hg (by omega)⟩
theorem SE.pick (h : SE w wr H rb m xb s A ca B cb P cp L) (hm : m ≤ 1000000) (k : Int) (hk : 1 ≤ k) (hk' : k ≤ 1000000) :
    Calls Try.prog 63 #[.pointer (some ⟨rb, 0, none⟩), .int .i64 k] wr fun e w' => ∃ v : Int, e = .returned (.int .i64 v) ∧ (0 ≤ v ∧ v < k) ∧ SE w w' H rb (m + 1) xb s A ca B cb P cp L ∧ wr.grownBy w' (some rb) :=
  (pick_any wr rb m k h.rd (by omega) hk hk').mono fun _ _ ⟨v, he, h0, h1, hr, hg⟩ => ⟨v, he, ⟨h0, h1⟩, h.turned hr hg, hg⟩
theorem SE.below (h : SE w wr H rb m xb s A ca B cb P cp L) (hb : Below wr.heap.size wr w') : SE w w' H rb m xb s A ca B cb P cp L :=
  ⟨h.rd.far (grown_of_below' hb) (fun _ e => by cases e), h.bw.trans (hb.mono h.bw.size), h.res.under hb h.res.1.lt, h.rw, h.xr, h.xH, Nat.le_trans h.hH hb.size, h.x.under hb h.x.1.lt, h.a.below hb, h.b.below hb, h.p.below hb⟩
theorem SE.alloc (h : SE w wr H rb m xb s A ca B cb P cp L) (o : Obj) : SE w (wr.alloc o) H rb m xb s A ca B cb P cp L := h.below ((Below.refl _ _).alloc (Nat.le_refl _) o)
theorem SE.drawn (h : SE w wr H rb m xb s A ca B cb P cp L) (j : Nat) : SE w { wr with drawn := j } H rb m xb s A ca B cb P cp L :=
  ⟨h.rd, ⟨h.bw.os, h.bw.tape, h.bw.output, h.bw.size, h.bw.block⟩, h.res, h.rw, h.xr, h.xH, h.hH, h.x, h.a, h.b, h.p⟩
theorem SE.mono (h : SE w wr H rb m xb s A ca B cb P cp L) {m' : Nat} (hm : m ≤ m') : SE w wr H rb m' xb s A ca B cb P cp L := ⟨h.rd.mono hm, h.bw, h.res, h.rw, h.xr, h.xH, h.hH, h.x, h.a, h.b, h.p⟩
/-- A store into the stream's block that leaves its sets alone. -/
theorem SE.store {s' : Sd} (h : SE w wr H rb m xb s A ca B cb P cp L) (j : Nat) (u : Value) (hA : s'.A = s.A) (hL : s'.L = s.L) (hx : Own6 (wr.setCell ⟨xb, j, none⟩ u) xb s'.d s'.f s'.l s'.n A s'.A.length ca B s'.L.length cb) :
    SE w (wr.setCell ⟨xb, j, none⟩ u) H rb m xb s' A ca B cb P cp L := by
  have h1 := h.rw
  have h2 := h.xr
  have t : Touch wr (wr.setCell ⟨xb, j, none⟩ u) xb (xb + 1) := (Touch.refl wr xb (xb + 1)).setCell (Nat.le_refl _) (Nat.lt_succ_self _) u
  have ha := h.a.hole (p := ⟨xb, j, none⟩) (.inr (.inl rfl)) u
  have hb := h.b.hole (p := ⟨xb, j, none⟩) (.inr (.inl rfl)) u
  rw [← hA] at ha
  rw [← hL] at hb
  exact ⟨h.rd.setCell (by show rb < xb; omega) u, h.bw.setCell (by show w.heap.size ≤ xb; omega) u, h.res.other (by show xb ≠ w.heap.size; omega) u, h.rw, h.xr, h.xH, by simpa [World.setCell] using h.hH, hx, ha, hb, h.p.touch t (.inl (Nat.le_refl _))⟩
theorem SE.setF (h : SE w wr H rb m xb s A ca B cb P cp L) (f' : Bool) : SE w (wr.setCell ⟨xb, 1, none⟩ (.bool f')) H rb m xb { s with f := f' } A ca B cb P cp L := h.store 1 _ rfl rfl (h.x.set1 f')
theorem SE.setL (h : SE w wr H rb m xb s A ca B cb P cp L) (l' : Int) : SE w (wr.setCell ⟨xb, 2, none⟩ (.int .i64 l')) H rb m xb { s with l := l' } A ca B cb P cp L := h.store 2 _ rfl rfl (h.x.set2 l')
/-- The stream takes the value of another one, that is new. -/
theorem SE.setAll (h : SE w wr H rb m xb s A ca B cb P cp L) (s' : Sd) {A' B' : Option Addr} {ca' cb' : Nat}
    (ha : RngIn wr (xb + 1) wr.heap.size A' s'.A.length ca' s'.A) (hb : RngIn wr (xb + 1) wr.heap.size B' s'.L.length cb' s'.L) :
    SE w ((((((wr.setCell ⟨xb, 0, none⟩ (.string s'.d)).setCell ⟨xb, 1, none⟩ (.bool s'.f)).setCell ⟨xb, 2, none⟩ (.int .i64 s'.l)).setCell ⟨xb, 3, none⟩ (.int .i64 s'.n)).setCell ⟨xb, 4, none⟩ (.slice A' s'.A.length ca')).setCell ⟨xb, 5, none⟩ (.slice B' s'.L.length cb')) wr.heap.size rb m xb s' A' ca' B' cb' P cp L := by
  have h1 := h.rw
  have h2 := h.xr
  have h3 := h.x.1.lt
  have t := touch6 wr xb (.string s'.d) (.bool s'.f) (.int .i64 s'.l) (.int .i64 s'.n) (.slice A' s'.A.length ca') (.slice B' s'.L.length cb')
  refine ⟨?_, ?_, h.res.touch t (.inl (by omega)), h.rw, h.xr, h3, by simp [World.setCell], h.x.setAll s'.d s'.f s'.l s'.n A' s'.A.length ca' B' s'.L.length cb', .inr (ha.touch t (.inr (Nat.le_refl _))), .inr (hb.touch t (.inr (Nat.le_refl _))), h.p.touch t (.inl (Nat.le_refl _))⟩
  · repeat refine Rd.setCell ?_ (by show rb < xb; omega) _
    exact h.rd
  · repeat refine Below.setCell ?_ (by show w.heap.size ≤ xb; omega) _
    exact h.bw
end

theorem results_s6 {w : World} {b : Nat} {d : ByteArray} {f : Bool} {l n : Int} {A : Option Addr} {na ca : Nat} {B : Option Addr} {nb cb : Nat} {fn : Func} {t : Tmp} (h : fn.results = #[.cell t 25]) {tmps : Array Value} (hp : tmps.getD t undef = .pointer (some ⟨b, 0, none⟩)) (hx : Own6 w b d f l n A na ca B nb cb) :
    (results fn tmps).run Try.prog w = .ok (.agg #[.string d, .bool f, .int .i64 l, .int .i64 n, .slice A na ca, .slice B nb cb]) w := by
  obtain ⟨⟨h0, h1, h2, h3, h4, h5⟩, _⟩ := hx
  have hp' : tmps[t]?.getD undef = .pointer (some ⟨b, 0, none⟩) := by simpa using hp
  simp [results, h, hp', go_sem, h0, h1, h2, h3, h4, h5]

/-- A stream was drawn. -/
def DrawnS (w : World) (e : Ending) (w' : World) : Prop :=
  ∃ d f l n' LA LB A ca B cb, e = .returned (.agg #[.string d, .bool f, .int .i64 l, .int .i64 n', .slice A LA.length ca, .slice B LB.length cb]) ∧ (d.size ≤ 30 ∧ LA.length ≤ 16 ∧ LB.length ≤ 16) ∧
    RngIn w' w.heap.size w'.heap.size A LA.length ca LA ∧ RngIn w' w.heap.size w'.heap.size B LB.length cb LB ∧ Below w.heap.size w w'

set_option linter.unusedVariables false in
set_option maxRecDepth 100000 in
set_option maxHeartbeats 8000000 in
theorem drawDone_any (w : World) (a : Option Addr) (len cap : Nat) (zs : List Int) (h : IsRow .u8 w a len cap zs) :
    Calls Try.prog 31 #[.slice a len cap] w (DrawnS w) := by
  go_enter Try.func31, Try.ntmps31
  go_wp2_with fail
  with_reducible refine (open_any w _ a len cap zs h (h.alloc _) (by simp)).mono ?_
  rintro e w1 ⟨o, rfl, rfl, hr⟩
  simp only [World.size_alloc] at hr
  have hres : Hid (Own6 (World.alloc (w.alloc (.cells #[.string (⟨#[]⟩ : ByteArray), .bool false, .int .i64 0, .int .i64 0, .slice none 0 0, .slice none 0 0] 25)) o) w.heap.size (⟨#[]⟩ : ByteArray) false 0 0 none 0 0 none 0 0) := hid_of ((Own6.newT w _).alloc _)
  have hb1 : Below w.heap.size w (World.alloc (w.alloc (.cells #[.string (⟨#[]⟩ : ByteArray), .bool false, .int .i64 0, .int .i64 0, .slice none 0 0, .slice none 0 0] 25)) o) := ((Below.refl _ w).alloc (Nat.le_refl _) _).alloc (by simp) _
  have hs1 : w.heap.size + 1 + 1 ≤ (World.alloc (w.alloc (.cells #[.string (⟨#[]⟩ : ByteArray), .bool false, .int .i64 0, .int .i64 0, .slice none 0 0, .slice none 0 0] 25)) o).heap.size := by simp
  clear h
  generalize hW1 : World.alloc (World.alloc w _) o = W1 at *
  clear hW1
  go_wp2_with fail
  with_reducible refine (send_any W1 (w.heap.size + 1) 0 hr (by omega)).mono ?_
  rintro e w2 ⟨d, f, l, n', LA, LB, A, ca, B, cb, P, cp, L, rfl, hG, hL12, hr2, hg2, hI, hJ, hap, hP⟩
  have hs2 := hg2.size
  have hb2 : Below w.heap.size w w2 := below_grown_new hb1 (Nat.le_refl _) hg2 (by omega)
  have hres2 := hid_of (hres.out.far hg2 (by omega))
  clear hr hb1 hres hg2 hap
  go_wp2_with fail
  generalize hW3 : World.alloc w2 _ = W3
  have S : Hid (SE w W3 (w2.heap.size + 1) (w.heap.size + 1) (0 + 100) w2.heap.size ⟨d, f, l, n', LA, LB⟩ A ca B cb P cp L) := by
    rw [← hW3]
    exact hid_of ⟨hr2.alloc _, hb2.alloc hb2.size _, hres2.out.alloc _, by omega, by omega, Nat.lt_succ_self _, by simp, Own6.newT w2 _, .inl ((hI.mono (by omega) (Nat.le_refl _)).alloc _), .inl ((hJ.mono (by omega) (Nat.le_refl _)).alloc _), (hP.mono (by omega) (Nat.le_refl _)).alloc _⟩
  have HW := hid_of (WS.of hG.sv)
  have HP : Hid (∀ p, p ∈ L → WP ⟨d, f, l, n', LA, LB⟩ p) := hid_of fun p hp => WP.of hG.sv (hG.all p hp)
  obtain ⟨xb, hxb⟩ : ∃ b, w2.heap.size = b := ⟨_, rfl⟩
  rw [hxb] at S ⊢
  clear hW3 hxb hb2 hs1 hs2 hres2 hI hJ hP hr2 hG
  with_reducible refine (S.out.pick (by omega) 3 (by omega) (by omega)).mono ?_
  rintro e w4 ⟨v, rfl, ⟨hv0, hv1⟩, S4, hg4⟩
  have S4 := hid_of S4
  clear S hg4
  by_cases hv : 0 < v
  rotate_left
  · obtain ⟨⟨x0, x1, x2, x3, x4, x5⟩, xf⟩ := S4.out.x
    obtain ⟨⟨r0, r1, r2, r3, r4, r5⟩, rf⟩ := S4.out.res
    dsimp only at x0 x1 x2 x3 x4 x5
    go_wp2_with fail
    have hrs := S4.out.res
    have hxx := S4.out.x.1.lt
    have hxr := S4.out.xr
    have hxw := S4.out.rw
    have hxH := S4.out.xH
    have hHH := S4.out.hH
    have hfew := HW.out.few
    have hl30 := HW.out.len
    dsimp only at hfew hl30
    try simp only [Exit.inBlock, Exit.then]
    refine bodyPost_ret (results_s6 rfl rfl (hrs.setAll _ _ _ _ _ _ _ _ _ _)) rfl ?_
    refine ⟨_, _, _, _, _, _, _, _, _, _, rfl, ⟨hl30, hfew.1, hfew.2⟩, ?_, ?_, ?_⟩
    · refine RngIn.mono (B := w.heap.size + 1) ?_ (Nat.le_succ _) (Nat.le_refl _)
      refine RngIn.touch ?_ (touch6 _ _ _ _ _ _ _ _) (.inr (Nat.le_refl _))
      exact S4.out.a.all (by omega) (by omega) (by simp [World.setCell]; omega) (by simp [World.setCell]; omega)
    · refine RngIn.mono (B := w.heap.size + 1) ?_ (Nat.le_succ _) (Nat.le_refl _)
      refine RngIn.touch ?_ (touch6 _ _ _ _ _ _ _ _) (.inr (Nat.le_refl _))
      exact S4.out.b.all (by omega) (by omega) (by simp [World.setCell]; omega) (by simp [World.setCell]; omega)
    · repeat refine Below.setCell ?_ (by show w.heap.size ≤ w.heap.size; omega) _
      exact S4.out.bw
  · obtain ⟨⟨x0, x1, x2, x3, x4, x5⟩, xf⟩ := S4.out.x
    dsimp only at x0 x1 x2 x3 x4 x5
    go_wp2_with fail
    generalize hW5 : World.setCell w4 _ _ = W5
    have S5 : Hid (SE w W5 (xb + 1) (w.heap.size + 1) (0 + 100 + 1) xb ⟨d, f, 30, n', LA, LB⟩ A ca B cb P cp L) := by rw [← hW5]; exact hid_of (S4.out.setL 30)
    have HW5 := hid_of HW.out.limit
    clear hW5 x0 x1 x2 x3 x4 x5 xf S4 hv0 hv1 hv
    with_reducible refine (S5.out.pick (by omega) 5 (by omega) (by omega)).mono ?_
    rintro e w6 ⟨u, rfl, ⟨hu0, hu1⟩, S6, hg6⟩
    clear hg6 S5
    obtain ⟨⟨x0, x1, x2, x3, x4, x5⟩, xf⟩ := S6.x
    dsimp only at x0 x1 x2 x3 x4 x5
    have S6 := hid_of S6
    go_upto_region 6 with (fail)
    generalize hW7 : World.setCell w6 _ _ = W7
    have S7 : Hid (∃ f' : Bool, SE w W7 (xb + 1) (w.heap.size + 1) (0 + 100 + 1 + 1) xb ⟨d, f', 30, n', LA, LB⟩ A ca B cb P cp L) := by rw [← hW7]; exact hid_of ⟨_, S6.out.setF _⟩
    clear hW7 x0 x1 x2 x3 x4 x5 xf S6 hu0 hu1
    obtain ⟨f', S7⟩ := S7.out
    have S7 := hid_of S7
    have HW7 : Hid (WS ⟨d, f', 30, n', LA, LB⟩) := hid_of (HW5.out.fin f')
    have HP7 : Hid (∀ p, p ∈ L → WP ⟨d, f', 30, n', LA, LB⟩ p) := hid_of fun p hp => (HP.out p hp).same rfl
    clear HW HW5 HP
    go_wp2_with fail
    go_loopw [6] (fun i wr => ∃ (k H : Nat) (LA LB : List Rg) (A : Option Addr) (ca : Nat) (B : Option Addr) (cb : Nat), i = .int .i64 (k : Nat) ∧ k ≤ L.length ∧ Hid (WS ⟨d, f', 30, n', LA, LB⟩) ∧ Hid (SE w wr H (w.heap.size + 1) (0 + 100 + 1 + 1) xb ⟨d, f', 30, n', LA, LB⟩ A ca B cb P cp L)) (fun i _ => L.length - (intOf i).toNat)
    case atStart => exact ⟨0, _, LA, LB, A, ca, B, cb, rfl, Nat.zero_le _, HW7, S7⟩
    case round =>
      clear S7 HW7
      obtain ⟨k, H, LA, LB, A, ca, B, cb, rfl, hk, HW, S⟩ := hrel
      by_cases hlt : k < L.length
      · go_wp2_with fail
        obtain ⟨g, eP, hg1, hg2, hg3, hcells⟩ := S.out.p.at_ (by omega)
        obtain ⟨p0, p1, p2⟩ := hcells k hlt
        obtain ⟨⟨po, pd, pf⟩, hpt⟩ : ∃ p, pth L k = p := ⟨_, rfl⟩
        have HWP : Hid (WP ⟨d, f', 30, n', LA, LB⟩ ⟨po, pd, pf⟩) := by rw [← hpt]; exact hid_of ((HP7.out _ (pth_mem hlt)).same rfl)
        have HPT := hid_of hpt
        rw [hpt] at p0 p1 p2
        dsimp only at p0 p1 p2
        obtain ⟨⟨x0, x1, x2, x3, x4, x5⟩, xf⟩ := S.out.x
        dsimp only at x0 x1 x2 x3 x4 x5
        clear hpt hcells
        have hk0 : (0 : Int) ≤ (k : Int) := by omega
        have hk1 : (k : Int) < (L.length : Int) := by omega
        obtain ⟨⟨d1, f1, l1, n1, LA1, LB1⟩, hak⟩ : ∃ x, ack ⟨d, f', 30, n', LA, LB⟩ ⟨po, pd, pf⟩ = x := ⟨_, rfl⟩
        have HAK := hid_of hak
        have HW1 : Hid (WS ⟨d1, f1, l1, n1, LA1, LB1⟩) := by rw [← hak]; exact hid_of (HW.out.ack HWP.out)
        have ed : d = d1 := congrArg Sd.d hak
        have ef : f' = f1 := congrArg Sd.f hak
        have el : 30 = l1 := congrArg Sd.l hak
        have en : n' = n1 := congrArg Sd.n hak
        subst ed ef el en
        clear hak
        subst eP
        obtain ⟨wq, hwq⟩ : ∃ x, x = wr := ⟨_, rfl⟩
        rw [← hwq] at S p0 p1 p2 x0 x1 x2 x3 x4 x5 xf ⊢
        clear hwq
        have inst : Nonempty (In (fun y => Own6 y xb d f' 30 n' A LA.length ca B LB.length cb ∧ y.cell? ⟨g, k * 3, none⟩ = some (.int .i64 po) ∧ y.cell? ⟨g, k * 3 + 1, none⟩ = some (.string pd) ∧ y.cell? ⟨g, k * 3 + 2, none⟩ = some (.bool pf))) := ⟨⟨wq, S.out.x, p0, p1, p2⟩⟩
        have u0 := fun z : In (fun y => Own6 y xb d f' 30 n' A LA.length ca B LB.length cb ∧ y.cell? ⟨g, k * 3, none⟩ = some (.int .i64 po) ∧ y.cell? ⟨g, k * 3 + 1, none⟩ = some (.string pd) ∧ y.cell? ⟨g, k * 3 + 2, none⟩ = some (.bool pf)) => z.h.1.1.1
        have u1 := fun z : In (fun y => Own6 y xb d f' 30 n' A LA.length ca B LB.length cb ∧ y.cell? ⟨g, k * 3, none⟩ = some (.int .i64 po) ∧ y.cell? ⟨g, k * 3 + 1, none⟩ = some (.string pd) ∧ y.cell? ⟨g, k * 3 + 2, none⟩ = some (.bool pf)) => z.h.1.1.2.1
        have u2 := fun z : In (fun y => Own6 y xb d f' 30 n' A LA.length ca B LB.length cb ∧ y.cell? ⟨g, k * 3, none⟩ = some (.int .i64 po) ∧ y.cell? ⟨g, k * 3 + 1, none⟩ = some (.string pd) ∧ y.cell? ⟨g, k * 3 + 2, none⟩ = some (.bool pf)) => z.h.1.1.2.2.1
        have u3 := fun z : In (fun y => Own6 y xb d f' 30 n' A LA.length ca B LB.length cb ∧ y.cell? ⟨g, k * 3, none⟩ = some (.int .i64 po) ∧ y.cell? ⟨g, k * 3 + 1, none⟩ = some (.string pd) ∧ y.cell? ⟨g, k * 3 + 2, none⟩ = some (.bool pf)) => z.h.1.1.2.2.2.1
        have u4 := fun z : In (fun y => Own6 y xb d f' 30 n' A LA.length ca B LB.length cb ∧ y.cell? ⟨g, k * 3, none⟩ = some (.int .i64 po) ∧ y.cell? ⟨g, k * 3 + 1, none⟩ = some (.string pd) ∧ y.cell? ⟨g, k * 3 + 2, none⟩ = some (.bool pf)) => z.h.1.1.2.2.2.2.1
        have u5 := fun z : In (fun y => Own6 y xb d f' 30 n' A LA.length ca B LB.length cb ∧ y.cell? ⟨g, k * 3, none⟩ = some (.int .i64 po) ∧ y.cell? ⟨g, k * 3 + 1, none⟩ = some (.string pd) ∧ y.cell? ⟨g, k * 3 + 2, none⟩ = some (.bool pf)) => z.h.1.1.2.2.2.2.2
        have v0 := fun z : In (fun y => Own6 y xb d f' 30 n' A LA.length ca B LB.length cb ∧ y.cell? ⟨g, k * 3, none⟩ = some (.int .i64 po) ∧ y.cell? ⟨g, k * 3 + 1, none⟩ = some (.string pd) ∧ y.cell? ⟨g, k * 3 + 2, none⟩ = some (.bool pf)) => z.h.2.1
        have v1 := fun z : In (fun y => Own6 y xb d f' 30 n' A LA.length ca B LB.length cb ∧ y.cell? ⟨g, k * 3, none⟩ = some (.int .i64 po) ∧ y.cell? ⟨g, k * 3 + 1, none⟩ = some (.string pd) ∧ y.cell? ⟨g, k * 3 + 2, none⟩ = some (.bool pf)) => z.h.2.2.1
        have v2 := fun z : In (fun y => Own6 y xb d f' 30 n' A LA.length ca B LB.length cb ∧ y.cell? ⟨g, k * 3, none⟩ = some (.int .i64 po) ∧ y.cell? ⟨g, k * 3 + 1, none⟩ = some (.string pd) ∧ y.cell? ⟨g, k * 3 + 2, none⟩ = some (.bool pf)) => z.h.2.2.2
        refine wp_region_end (fun y => Own6 y xb d f' 30 n' A LA.length ca B LB.length cb ∧ y.cell? ⟨g, k * 3, none⟩ = some (.int .i64 po) ∧ y.cell? ⟨g, k * 3 + 1, none⟩ = some (.string pd) ∧ y.cell? ⟨g, k * 3 + 2, none⟩ = some (.bool pf)) (fun y => ∃ j, y = { wq with drawn := j }) [([0, 1, 2, 3, 4], 5)] [] 6 (by kernel_rfl) (by kernel_rfl) (fun y hy => by obtain ⟨j, rfl⟩ := hy; exact ⟨(S.out.drawn j).x, p0, p1, p2⟩) (fun j => ⟨j, rfl⟩) ?_
        simp only [SeqE, opsAt, List.filterMap_cons, List.filterMap_nil, List.getElem?_cons_zero, List.getElem?_cons_succ]
        repeat (quiet_step (fail))
        refine wpQuiet_nil ?_
        refine ⟨_, rfl, rfl, turns_step2 fun Z hZ y5 h5 => ?_⟩
        clear inst u0 u1 u2 u3 u4 u5 v0 v1 v2 x0 x1 x2 x3 x4 x5 xf p0 p1 p2
        obtain ⟨j5, rfl⟩ := h5
        have S5 := hid_of (S.out.drawn j5)
        clear S
        go_simp
        with_reducible refine (ack_ws HAK.out HW.out HWP.out _ S5.out.a.reads S5.out.b.reads (fun e => S5.out.a.none_cap e) (fun e => S5.out.b.none_cap e)).mono ?_
        rintro e y6 ⟨⟨_, rfl, A1, c1, B1, c2, rfl, hI, hJ, hap⟩, hb6⟩
        have S6 := hid_of (S5.out.below hb6)
        have hx5 := S5.out.x.1.lt
        have hs6 := hb6.size
        have HI := hid_of (hI.mono (show xb + 1 ≤ _ by omega) (Nat.le_refl _))
        have HJ := hid_of (hJ.mono (show xb + 1 ≤ _ by omega) (Nat.le_refl _))
        clear S5 hb6 hI hJ hap hx5 hs6
        have hB6 : (fun y => Own6 y xb d f' 30 n' A LA.length ca B LB.length cb ∧ y.cell? ⟨g, k * 3, none⟩ = some (.int .i64 po) ∧ y.cell? ⟨g, k * 3 + 1, none⟩ = some (.string pd) ∧ y.cell? ⟨g, k * 3 + 2, none⟩ = some (.bool pf)) y6 := by
          obtain ⟨g', e', _, _, _, hcells⟩ := S6.out.p.at_ (by omega)
          obtain ⟨p0, p1, p2⟩ := hcells k hlt
          cases e'
          rw [HPT.out] at p0 p1 p2
          exact ⟨S6.out.x, p0, p1, p2⟩
        refine hZ (fun y => Own6 y xb d f' 30 n' A LA.length ca B LB.length cb ∧ y.cell? ⟨g, k * 3, none⟩ = some (.int .i64 po) ∧ y.cell? ⟨g, k * 3 + 1, none⟩ = some (.string pd) ∧ y.cell? ⟨g, k * 3 + 2, none⟩ = some (.bool pf)) (fun y => y = y6) _ _ rfl (fun y e => by rw [e]; exact hB6) (fun _ hx => hx) ?_
        clear hZ Z hB6
        refine wpQuiet_nil ?_
        refine ⟨_, rfl, rfl, fun y7 h7 => ?_⟩
        subst h7
        obtain ⟨⟨x0, x1, x2, x3, x4, x5⟩, xf⟩ := S6.out.x
        dsimp only at x0 x1 x2 x3 x4 x5
        go_simp
        have S8 := hid_of (S6.out.setAll ⟨d, f', 30, n', LA1, LB1⟩ HI.out HJ.out)
        dsimp only at S8
        generalize hW : World.setCell (World.setCell (World.setCell (World.setCell (World.setCell (World.setCell y7 _ _) _ _) _ _) _ _) _ _) _ _ = w8 at S8 ⊢
        clear hW x0 x1 x2 x3 x4 x5 xf HI HJ S6
        go_wp2_with fail
        go_roundw
        case rel => exact ⟨k + 1, _, LA1, LB1, A1, c1, B1, c2, by go_num, by omega, HW1, S8⟩
        case measure => simp [intOf]; omega
      · go_wp2_with fail
        clear HP7
        go_loopw [7] (fun i wr => ∃ (k m H : Nat) (n' : Int) (LA LB : List Rg) (A : Option Addr) (ca : Nat) (B : Option Addr) (cb : Nat), i = .int .i64 (k : Nat) ∧ k ≤ 40 ∧ m ≤ 102 + k ∧ Hid (WS ⟨d, f', 30, n', LA, LB⟩) ∧ Hid (SE w wr H (w.heap.size + 1) m xb ⟨d, f', 30, n', LA, LB⟩ A ca B cb P cp L)) (fun i _ => 40 - (intOf i).toNat)
        case atStart => exact ⟨0, _, _, n', LA, LB, A, ca, B, cb, rfl, Nat.zero_le _, by omega, HW, S⟩
        case round =>
          clear S HW hlt hk
          obtain ⟨k, m, H, n', LA, LB, A, ca, B, cb, rfl, hk, hm, HW, S⟩ := hrel
          by_cases hlt : k < 40
          · obtain ⟨⟨x0, x1, x2, x3, x4, x5⟩, xf⟩ := S.out.x
            dsimp only at x0 x1 x2 x3 x4 x5
            obtain ⟨⟨⟨d1, f1, l1, n1, LA1, LB1⟩, ⟨o2, d2, f2⟩, b1⟩, hnx⟩ : ∃ x, next ⟨d, f', 30, n', LA, LB⟩ 12 = x := ⟨_, rfl⟩
            have HNX := hid_of hnx
            obtain ⟨hw1, hw2⟩ := HW.out.next (k := 12) (by omega)
            rw [hnx] at hw1 hw2
            dsimp only at hw1 hw2
            obtain ⟨ed, ef, el⟩ := next_same (s := ⟨d, f', 30, n', LA, LB⟩) (k := 12)
            rw [hnx] at ed ef el
            dsimp only at ed ef el
            subst ed ef el
            have HW1 := hid_of hw1
            have HWP := hid_of hw2
            clear hnx hw1 hw2
            go_wp2_with fail
            clear x0 x1 x2 x3 x4 x5 xf
            with_reducible refine (next_ws HNX.out HW.out ⟨by omega, by omega⟩ _ S.out.a.reads S.out.b.reads (fun e => S.out.a.none_cap e) (fun e => S.out.b.none_cap e)).mono ?_
            rintro e w8 ⟨⟨_, rfl, A1, c1, B1, c2, rfl, hI, hJ, hap⟩, hb8⟩
            dsimp only at hI hJ
            have hx0 := S.out.x.1.lt
            have hs8 := hb8.size
            have S8 := hid_of (S.out.below hb8)
            have HI := hid_of (hI.mono (show xb + 1 ≤ _ by omega) (Nat.le_refl _))
            have HJ := hid_of (hJ.mono (show xb + 1 ≤ _ by omega) (Nat.le_refl _))
            clear hI hJ hap hb8
            go_upto_region 14 with (fail)
            generalize hW : World.alloc (World.alloc w8 _) _ = w9
            have S9 : Hid (SE w w9 H (w.heap.size + 1) m xb ⟨d, f', 30, n', LA, LB⟩ A ca B cb P cp L) := by rw [← hW]; exact hid_of ((S8.out.alloc _).alloc _)
            have Y9 : Hid (Own6 w9 w8.heap.size d f' 30 n1 A1 LA1.length c1 B1 LB1.length c2) := by rw [← hW]; exact hid_of ((Own6.newT _ _).alloc _)
            have Q9 : Hid (Own3 w9 (w8.heap.size + 1) o2 d2 f2) := by rw [← hW]; exact hid_of (by have := Own3.newT (o := o2) (d := d2) (f := f2) (w8.alloc (.cells #[.string d, .bool f', .int .i64 30, .int .i64 n1, .slice A1 LA1.length c1, .slice B1 LB1.length c2] 25)) 27; simpa using this)
            have I9 : Hid (RngIn w9 (xb + 1) w9.heap.size A1 LA1.length c1 LA1) := by rw [← hW]; exact hid_of (((HI.out.alloc _).alloc _).mono (Nat.le_refl _) (by rw [World.size_alloc, World.size_alloc]; omega))
            have J9 : Hid (RngIn w9 (xb + 1) w9.heap.size B1 LB1.length c2 LB1) := by rw [← hW]; exact hid_of (((HJ.out.alloc _).alloc _).mono (Nat.le_refl _) (by rw [World.size_alloc, World.size_alloc]; omega))
            have hs9 : xb + 1 ≤ w8.heap.size := by have := S8.out.x.1.lt; omega
            clear hW S8 HI HJ hs8 hx0 S
            obtain ⟨⟨x0, x1, x2, x3, x4, x5⟩, xf⟩ := S9.out.x
            obtain ⟨⟨y0, y1, y2, y3, y4, y5⟩, yf⟩ := Y9.out
            dsimp only at x0 x1 x2 x3 x4 x5
            go_upto_region 15 with (fail)
            have S10 := hid_of (S9.out.setAll ⟨d, f', 30, n1, LA1, LB1⟩ I9.out J9.out)
            dsimp only at S10
            have Q10 := hid_of (Q9.out.touch (touch6 w9 xb (.string d) (.bool f') (.int .i64 30) (.int .i64 n1) (.slice A1 LA1.length c1) (.slice B1 LB1.length c2)) (by omega))
            generalize hW : World.setCell (World.setCell (World.setCell (World.setCell (World.setCell (World.setCell w9 _ _) _ _) _ _) _ _) _ _) _ _ = w10 at S10 Q10 ⊢
            clear hW x0 x1 x2 x3 x4 x5 xf y0 y1 y2 y3 y4 y5 yf S9 Y9 Q9 I9 J9
            cases b1 with
            | false =>
              go_wp2_with fail
              go_roundw
              case rel => exact ⟨k + 1, _, _, n1, LA1, LB1, A1, c1, B1, c2, by go_num, by omega, by omega, HW1, S10⟩
              case measure => simp [intOf]; omega
            | true =>
              have HWQ : Hid (WP ⟨d, f', 30, n1, LA1, LB1⟩ ⟨o2, d2, f2⟩) := hid_of (HWP.out rfl)
              clear HWP
              go_wp2_with fail
              with_reducible refine (S10.out.pick (by omega) 20 (by omega) (by omega)).mono ?_
              rintro e w11 ⟨t, rfl, ⟨ht0, ht1⟩, S11, hg11⟩
              have hrb : w.heap.size + 1 < xb := S11.xr
              have Q11 := hid_of (Q10.out.far3 hg11 (by omega))
              have S11 := hid_of S11
              clear S10 Q10 hg11
              by_cases htt : 0 < t
              · obtain ⟨⟨x0, x1, x2, x3, x4, x5⟩, xf⟩ := S11.out.x
                obtain ⟨⟨q0, q1, q2⟩, qf⟩ := Q11.out
                dsimp only at x0 x1 x2 x3 x4 x5
                obtain ⟨⟨d3, f3, l3, n3, LA3, LB3⟩, hak⟩ : ∃ x, ack ⟨d, f', 30, n1, LA1, LB1⟩ ⟨o2, d2, f2⟩ = x := ⟨_, rfl⟩
                have HAK := hid_of hak
                have HW3 : Hid (WS ⟨d3, f3, l3, n3, LA3, LB3⟩) := by rw [← hak]; exact hid_of (HW1.out.ack HWQ.out)
                have ed : d = d3 := congrArg Sd.d hak
                have ef : f' = f3 := congrArg Sd.f hak
                have el : 30 = l3 := congrArg Sd.l hak
                have en : n1 = n3 := congrArg Sd.n hak
                subst ed ef el en
                clear hak
                go_wp2_with (go_at_call 51; (with_reducible refine (ack_ws HAK.out HW1.out HWQ.out _ S11.out.a.reads S11.out.b.reads (fun e => S11.out.a.none_cap e) (fun e => S11.out.b.none_cap e)).mono ?_); rintro e w12 ⟨⟨_, rfl, A3, c3, B3, c4, rfl, hI, hJ, hap⟩, hb12⟩; have hx0 := S11.out.x.1.lt; have hs12 := hb12.size; have S12 := hid_of (S11.out.below hb12); have HI := hid_of (hI.mono (show xb + 1 ≤ _ by omega) (Nat.le_refl _)); have HJ := hid_of (hJ.mono (show xb + 1 ≤ _ by omega) (Nat.le_refl _)); clear hI hJ hap hb12 x0 x1 x2 x3 x4 x5 xf; obtain ⟨⟨x0, x1, x2, x3, x4, x5⟩, xf⟩ := S12.out.x; dsimp only at x0 x1 x2 x3 x4 x5)
                have S13 := hid_of (S12.out.setAll ⟨d, f', 30, n1, LA3, LB3⟩ HI.out HJ.out)
                dsimp only at S13
                generalize hW : World.setCell (World.setCell (World.setCell (World.setCell (World.setCell (World.setCell w12 _ _) _ _) _ _) _ _) _ _) _ _ = w13 at S13 ⊢
                clear hW x0 x1 x2 x3 x4 x5 xf q0 q1 q2 qf S12 HI HJ
                go_roundw
                case rel => exact ⟨k + 1, _, _, n1, LA3, LB3, A3, c3, B3, c4, by go_num, by omega, by omega, HW3, S13⟩
                case measure => simp [intOf]; omega
              · go_wp2_with fail
                go_roundw
                case rel => exact ⟨k + 1, _, _, n1, LA1, LB1, A1, c1, B1, c2, by go_num, by omega, by omega, HW1, S11⟩
                case measure => simp [intOf]; omega
          · obtain ⟨⟨x0, x1, x2, x3, x4, x5⟩, xf⟩ := S.out.x
            obtain ⟨⟨r0, r1, r2, r3, r4, r5⟩, rf⟩ := S.out.res
            dsimp only at x0 x1 x2 x3 x4 x5
            go_wp2_with fail
            have hrs := S.out.res
            have hxx := S.out.x.1.lt
            have hxr := S.out.xr
            have hxw := S.out.rw
            have hxH := S.out.xH
            have hHH := S.out.hH
            have hfew := HW.out.few
            have hl30 := HW.out.len
            dsimp only at hfew hl30
            try simp only [Exit.inBlock, Exit.then]
            refine bodyPost_ret (results_s6 rfl rfl (hrs.setAll _ _ _ _ _ _ _ _ _ _)) rfl ?_
            refine ⟨_, _, _, _, _, _, _, _, _, _, rfl, ⟨hl30, hfew.1, hfew.2⟩, ?_, ?_, ?_⟩
            · refine RngIn.mono (B := w.heap.size + 1) ?_ (Nat.le_succ _) (Nat.le_refl _)
              refine RngIn.touch ?_ (touch6 _ _ _ _ _ _ _ _) (.inr (Nat.le_refl _))
              exact S.out.a.all (by omega) (by omega) (by simp [World.setCell]; omega) (by simp [World.setCell]; omega)
            · refine RngIn.mono (B := w.heap.size + 1) ?_ (Nat.le_succ _) (Nat.le_refl _)
              refine RngIn.touch ?_ (touch6 _ _ _ _ _ _ _ _) (.inr (Nat.le_refl _))
              exact S.out.b.all (by omega) (by omega) (by simp [World.setCell]; omega) (by simp [World.setCell]; omega)
            · repeat refine Below.setCell ?_ (by show w.heap.size ≤ w.heap.size; omega) _
              exact S.out.bw

end Go.Proofs.Ytmkmaeblnnfheaa
