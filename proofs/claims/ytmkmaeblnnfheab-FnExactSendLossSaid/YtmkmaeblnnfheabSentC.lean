/- Was a part sent? Both sides answer the same; PartSent on both sides. -/
import Derived.Test.YtmkmaeblnnfheabSndS
import Derived.Test.YtmkmaeblnnfheabSndW
import Derived.Test.YtmkmaeblnnfheabSndK
namespace Go.Proofs.Ytmkmaeblnnfheab
open Go.RowKit
attribute [local irreducible] Go.wpQuiet

theorem last_eq {o : Int} {dp : ByteArray} {fp : Bool} {ls : Int} (h : Pt.last ⟨o, dp, fp⟩ = ls) : (fp = true ∧ ls = o + dp.size) ∨ (fp = false ∧ ls = o + dp.size - 1) := by
  unfold Pt.last at h
  dsimp only at h
  cases fp
  · right
    rw [if_neg (by decide)] at h
    exact ⟨rfl, h.symm⟩
  · left
    rw [if_pos rfl] at h
    exact ⟨rfl, h.symm⟩

theorem sent_s (d : ByteArray) (f : Bool) (l n : Int) (LA LB : List Rg) (A : Option Addr) (ca : Nat) (B : Option Addr) (cb : Nat) (o : Int) (dp : ByteArray) (fp : Bool) (w : World) (hd : d.size ≤ 30) :
    Calls Try.prog 78 #[.agg #[.string d, .bool f, .int .i64 l, .int .i64 n, .slice A LA.length ca, .slice B LB.length cb], .agg #[.int .i64 o, .string dp, .bool fp]] w fun e w' => e = .returned (.bool (sentB ⟨d, f, l, n, LA, LB⟩ ⟨o, dp, fp⟩)) ∧ Below w.heap.size w w' := by
  obtain ⟨ls, hls⟩ : ∃ x, Pt.last ⟨o, dp, fp⟩ = x := ⟨_, rfl⟩
  have HL := last_eq hls
  by_cases t0 : o < 0
  · rw [sentB_not (s := ⟨d, f, l, n, LA, LB⟩) (p := ⟨o, dp, fp⟩) (fun h => by have := h.o0; dsimp only at *; omega)]
    exact sent_s_0 d f l n LA LB A ca B cb o dp fp ls w (hid_of hls) hd  (decide_eq_true t0)
  by_cases t1 : 30 < o
  · rw [sentB_not (s := ⟨d, f, l, n, LA, LB⟩) (p := ⟨o, dp, fp⟩) (fun h => by have := h.o1; dsimp only at *; omega)]
    exact sent_s_1 d f l n LA LB A ca B cb o dp fp ls w (hid_of hls) hd (decide_eq_false t0) (decide_eq_true t1)
  by_cases t2 : (30 : Int) < (dp.size : Int)
  · rw [sentB_not (s := ⟨d, f, l, n, LA, LB⟩) (p := ⟨o, dp, fp⟩) (fun h => by have := h.fit; have := h.o0; dsimp only at *; omega)]
    exact sent_s_2 d f l n LA LB A ca B cb o dp fp ls w (hid_of hls) hd (decide_eq_false t0) (decide_eq_false t1) (decide_eq_true t2)
  by_cases t3 : ls < o
  · rw [sentB_not (s := ⟨d, f, l, n, LA, LB⟩) (p := ⟨o, dp, fp⟩) (fun h => by have := h.lo; rw [hls] at this; dsimp only at *; omega)]
    exact sent_s_3 d f l n LA LB A ca B cb o dp fp ls w (hid_of hls) hd (decide_eq_false t0) (decide_eq_false t1) (decide_eq_false t2) (decide_eq_true t3)
  by_cases t4 : n ≤ ls
  · rw [sentB_not (s := ⟨d, f, l, n, LA, LB⟩) (p := ⟨o, dp, fp⟩) (fun h => by have := h.hi; rw [hls] at this; dsimp only at *; omega)]
    exact sent_s_4 d f l n LA LB A ca B cb o dp fp ls w (hid_of hls) hd (decide_eq_false t0) (decide_eq_false t1) (decide_eq_false t2) (decide_eq_false t3) (decide_eq_true t4)
  by_cases s0 : ¬ (o + (dp.size : Int) ≤ (d.size : Int))
  · rw [sentB_not (s := ⟨d, f, l, n, LA, LB⟩) (p := ⟨o, dp, fp⟩) (fun h => s0 h.fit)]
    exact sent_s_v1 d f l n LA LB A ca B cb o dp fp ls w (hid_of hls) hd (decide_eq_false t0) (decide_eq_false t1) (decide_eq_false t2) (decide_eq_false t3) (decide_eq_false t4) (decide_eq_false s0)
  replace s0 := Decidable.of_not_not s0
  have hX : d.extract o.toNat (o + (dp.size : Int)).toNat = d.extract o.toNat (o.toNat + dp.size) := by congr 1; omega
  cases s1 : ((d.extract o.toNat (o + (dp.size : Int)).toNat).toList == dp.toList) with
  | false =>
    rw [sentB_not (s := ⟨d, f, l, n, LA, LB⟩) (p := ⟨o, dp, fp⟩) (fun h => by have e := bytes_beq.2 (hX.trans h.data); rw [s1] at e; cases e)]
    exact sent_s_v2 d f l n LA LB A ca B cb o dp fp ls w (hid_of hls) hd (decide_eq_false t0) (decide_eq_false t1) (decide_eq_false t2) (decide_eq_false t3) (decide_eq_false t4) (decide_eq_true s0) s1
  | true =>
    have hdata := hX.symm.trans (bytes_beq.1 s1)
    cases hfp : fp with
    | false =>
      subst hfp
      rw [sentB_iff.2 (⟨by dsimp only; omega, by dsimp only; omega, by rw [hls]; dsimp only; omega, by rw [hls]; dsimp only; omega, s0, hdata, fun e => by cases e⟩ : Sent ⟨d, f, l, n, LA, LB⟩ ⟨o, dp, false⟩)]
      exact sent_s_v3 d f l n LA LB A ca B cb o dp false ls w (hid_of hls) hd (decide_eq_false t0) (decide_eq_false t1) (decide_eq_false t2) (decide_eq_false t3) (decide_eq_false t4) (decide_eq_true s0) s1 (hid_of rfl)
    | true =>
      subst hfp
      cases hf : f with
      | false =>
        rw [sentB_not (s := ⟨d, false, l, n, LA, LB⟩) (p := ⟨o, dp, true⟩) (fun h => by have := (h.fin rfl).1; cases this)]
        exact sent_s_v4 d false l n LA LB A ca B cb o dp true ls w (hid_of hls) hd (decide_eq_false t0) (decide_eq_false t1) (decide_eq_false t2) (decide_eq_false t3) (decide_eq_false t4) (decide_eq_true s0) s1 (hid_of rfl) (hid_of rfl)
      | true =>
        cases s4 : (o + (dp.size : Int) == (d.size : Int)) with
        | false =>
          rw [sentB_not (s := ⟨d, true, l, n, LA, LB⟩) (p := ⟨o, dp, true⟩) (fun h => by have := (h.fin rfl).2; dsimp only at this; rw [beq_eq_false_iff_ne] at s4; exact s4 this)]
          exact sent_s_v5 d true l n LA LB A ca B cb o dp true ls w (hid_of hls) hd (decide_eq_false t0) (decide_eq_false t1) (decide_eq_false t2) (decide_eq_false t3) (decide_eq_false t4) (decide_eq_true s0) s1 (hid_of rfl) (hid_of rfl) s4
        | true =>
          have s4' := beq_iff_eq.1 s4
          rw [sentB_iff.2 (⟨by dsimp only; omega, by dsimp only; omega, by rw [hls]; dsimp only; omega, by rw [hls]; dsimp only; omega, s0, hdata, fun _ => ⟨rfl, s4'⟩⟩ : Sent ⟨d, true, l, n, LA, LB⟩ ⟨o, dp, true⟩)]
          exact sent_s_v6 d true l n LA LB A ca B cb o dp true ls w (hid_of hls) hd (decide_eq_false t0) (decide_eq_false t1) (decide_eq_false t2) (decide_eq_false t3) (decide_eq_false t4) (decide_eq_true s0) s1 (hid_of rfl) (hid_of rfl) s4

theorem sent_i (d : ByteArray) (f : Bool) (l n : Int) (LA LB : List Rg) (A : Option Addr) (ca : Nat) (B : Option Addr) (cb : Nat) (o : Int) (dp : ByteArray) (fp : Bool) (w : World) (hd : d.size ≤ 30) (hdp : dp.size ≤ 2000000) :
    Calls Try.prog 70 #[.agg #[.string d, .bool f, .int .i64 l, .int .i64 n, .slice A LA.length ca, .slice B LB.length cb], .agg #[.int .i64 o, .string dp, .bool fp]] w fun e w' => e = .returned (.bool (sentB ⟨d, f, l, n, LA, LB⟩ ⟨o, dp, fp⟩)) ∧ Below w.heap.size w w' := by
  obtain ⟨ls, hls⟩ : ∃ x, Pt.last ⟨o, dp, fp⟩ = x := ⟨_, rfl⟩
  have HL := last_eq hls
  cases hc : decide (0 ≤ o ∧ o ≤ 30) with
  | false =>
    rw [sentB_not (s := ⟨d, f, l, n, LA, LB⟩) (p := ⟨o, dp, fp⟩) (fun h => of_decide_eq_false hc ⟨h.o0, h.o1⟩)]
    exact sent_i_0 d f l n LA LB A ca B cb o dp fp ls w (hid_of hls) hd hdp (hid_of hc)
  | true =>
    have ho := of_decide_eq_true hc
    by_cases t1 : ls < o
    · rw [sentB_not (s := ⟨d, f, l, n, LA, LB⟩) (p := ⟨o, dp, fp⟩) (fun h => by have := h.lo; rw [hls] at this; dsimp only at *; omega)]
      exact sent_i_1 d f l n LA LB A ca B cb o dp fp ls w (hid_of hls) hd hdp (hid_of hc)  (decide_eq_true t1)
    by_cases t2 : n ≤ ls
    · rw [sentB_not (s := ⟨d, f, l, n, LA, LB⟩) (p := ⟨o, dp, fp⟩) (fun h => by have := h.hi; rw [hls] at this; dsimp only at *; omega)]
      exact sent_i_2 d f l n LA LB A ca B cb o dp fp ls w (hid_of hls) hd hdp (hid_of hc) (decide_eq_false t1) (decide_eq_true t2)
    by_cases t3 : (d.size : Int) < o
    · rw [sentB_not (s := ⟨d, f, l, n, LA, LB⟩) (p := ⟨o, dp, fp⟩) (fun h => by have := h.fit; dsimp only at *; omega)]
      exact sent_i_3 d f l n LA LB A ca B cb o dp fp ls w (hid_of hls) hd hdp (hid_of hc) (decide_eq_false t1) (decide_eq_false t2) (decide_eq_true t3)
    cases hfp : fp with
    | false =>
      subst hfp
      cases hb : pre (d.extract o.toNat d.size) dp with
      | false => rw [sentB_not (s := ⟨d, f, l, n, LA, LB⟩) (p := ⟨o, dp, false⟩) (fun h => by have e := (pre_iff (d := d) (p := dp) (o := o) ho.1 (by omega)).2 ⟨h.fit, h.data⟩; rw [hb] at e; cases e)]; exact sent_i_7 d f l n LA LB A ca B cb o dp false ls w (hid_of hls) hd hdp (hid_of hc) (decide_eq_false t1) (decide_eq_false t2) (decide_eq_false t3) (hid_of rfl) _ (hid_of hb)
      | true => rw [sentB_iff.2 (⟨ho.1, ho.2, by rw [hls]; dsimp only; omega, by rw [hls]; dsimp only; omega, (pre_iff ho.1 (by omega)).1 hb |>.1, (pre_iff ho.1 (by omega)).1 hb |>.2, fun e => by cases e⟩ : Sent ⟨d, f, l, n, LA, LB⟩ ⟨o, dp, false⟩)]; exact sent_i_7 d f l n LA LB A ca B cb o dp false ls w (hid_of hls) hd hdp (hid_of hc) (decide_eq_false t1) (decide_eq_false t2) (decide_eq_false t3) (hid_of rfl) _ (hid_of hb)
    | true =>
      subst hfp
      cases hf : f with
      | false =>
        rw [sentB_not (s := ⟨d, false, l, n, LA, LB⟩) (p := ⟨o, dp, true⟩) (fun h => by have := (h.fin rfl).1; cases this)]
        exact sent_i_5 d false l n LA LB A ca B cb o dp true ls w (hid_of hls) hd hdp (hid_of hc) (decide_eq_false t1) (decide_eq_false t2) (decide_eq_false t3) (hid_of rfl) (hid_of rfl)
      | true =>
        cases s4 : (o + (dp.size : Int) == (d.size : Int)) with
        | false =>
          rw [sentB_not (s := ⟨d, true, l, n, LA, LB⟩) (p := ⟨o, dp, true⟩) (fun h => by have := (h.fin rfl).2; dsimp only at this; rw [beq_eq_false_iff_ne] at s4; exact s4 this)]
          exact sent_i_6 d true l n LA LB A ca B cb o dp true ls w (hid_of hls) hd hdp (hid_of hc) (decide_eq_false t1) (decide_eq_false t2) (decide_eq_false t3) (hid_of rfl) (hid_of rfl) s4
        | true =>
          have s4' := beq_iff_eq.1 s4
          cases hb : pre (d.extract o.toNat d.size) dp with
          | false => rw [sentB_not (s := ⟨d, true, l, n, LA, LB⟩) (p := ⟨o, dp, true⟩) (fun h => by have e := (pre_iff (d := d) (p := dp) (o := o) ho.1 (by omega)).2 ⟨h.fit, h.data⟩; rw [hb] at e; cases e)]; exact sent_i_8 d true l n LA LB A ca B cb o dp true ls w (hid_of hls) hd hdp (hid_of hc) (decide_eq_false t1) (decide_eq_false t2) (decide_eq_false t3) (hid_of rfl) (hid_of rfl) s4 _ (hid_of hb)
          | true => rw [sentB_iff.2 (⟨ho.1, ho.2, by rw [hls]; dsimp only; omega, by rw [hls]; dsimp only; omega, (pre_iff ho.1 (by omega)).1 hb |>.1, (pre_iff ho.1 (by omega)).1 hb |>.2, fun _ => ⟨rfl, s4'⟩⟩ : Sent ⟨d, true, l, n, LA, LB⟩ ⟨o, dp, true⟩)]; exact sent_i_8 d true l n LA LB A ca B cb o dp true ls w (hid_of hls) hd hdp (hid_of hc) (decide_eq_false t1) (decide_eq_false t2) (decide_eq_false t3) (hid_of rfl) (hid_of rfl) s4 _ (hid_of hb)

theorem sent_s_v {x : Bool} {d : ByteArray} {f : Bool} {l n : Int} {LA LB : List Rg} {A : Option Addr} {ca : Nat} {B : Option Addr} {cb : Nat} {o : Int} {dp : ByteArray} {fp : Bool} (hx : sentB ⟨d, f, l, n, LA, LB⟩ ⟨o, dp, fp⟩ = x) (w : World) (hd : d.size ≤ 30) (_ : dp.size ≤ 2000000) :
    Calls Try.prog 78 #[.agg #[.string d, .bool f, .int .i64 l, .int .i64 n, .slice A LA.length ca, .slice B LB.length cb], .agg #[.int .i64 o, .string dp, .bool fp]] w fun e w' => e = .returned (.bool x) ∧ Below w.heap.size w w' := hx ▸ sent_s d f l n LA LB A ca B cb o dp fp w hd
theorem sent_i_v {x : Bool} {d : ByteArray} {f : Bool} {l n : Int} {LA LB : List Rg} {A : Option Addr} {ca : Nat} {B : Option Addr} {cb : Nat} {o : Int} {dp : ByteArray} {fp : Bool} (hx : sentB ⟨d, f, l, n, LA, LB⟩ ⟨o, dp, fp⟩ = x) (w : World) (hd : d.size ≤ 30) (hdp : dp.size ≤ 2000000) :
    Calls Try.prog 70 #[.agg #[.string d, .bool f, .int .i64 l, .int .i64 n, .slice A LA.length ca, .slice B LB.length cb], .agg #[.int .i64 o, .string dp, .bool fp]] w fun e w' => e = .returned (.bool x) ∧ Below w.heap.size w w' := hx ▸ sent_i d f l n LA LB A ca B cb o dp fp w hd hdp
noncomputable def sentOk (s : Sd) (p : Pt) : Bool := okS s && sentB s p
theorem sentOk_iff {s : Sd} {p : Pt} : sentOk s p = true ↔ SV s ∧ Sent s p := by unfold sentOk; rw [Bool.and_eq_true, okS_iff, sentB_iff]
set_option maxRecDepth 100000 in
set_option maxHeartbeats 4000000 in
theorem psent_s_w (d : ByteArray) (f : Bool) (l n : Int) (LA LB : List Rg) (A : Option Addr) (ca : Nat) (B : Option Addr) (cb : Nat) (o : Int) (dp : ByteArray) (fp : Bool) (w : World) (hA : RngAt w A LA.length LA) (hB : RngAt w B LB.length LB) (hn : LA.length ≤ 2000000) (hn' : LB.length ≤ 2000000) (v b : Bool) (HV : Hid (okS ⟨d, f, l, n, LA, LB⟩ = v)) (HB : Hid (sentB ⟨d, f, l, n, LA, LB⟩ ⟨o, dp, fp⟩ = b)) (hd : v = true → d.size ≤ 30) (hdp : dp.size ≤ 2000000) :
    Calls Try.prog 59 #[.agg #[.string d, .bool f, .int .i64 l, .int .i64 n, .slice A LA.length ca, .slice B LB.length cb], .agg #[.int .i64 o, .string dp, .bool fp]] w fun e w' => e = .returned (.bool (v && b)) ∧ Below w.heap.size w w' := by
  have z := (Own6.new (d := d) (f := f) (l := l) (n := n) (A := A) (na := LA.length) (ca := ca) (B := B) (nb := LB.length) (cb := cb) w).alloc (.cells #[.int .i64 o, .string dp, .bool fp] 29)
  have q := Own3.new (w.alloc (.cells #[.string d, .bool f, .int .i64 l, .int .i64 n, .slice A LA.length ca, .slice B LB.length cb] 25)) o dp fp
  rw [show (w.alloc (.cells #[.string d, .bool f, .int .i64 l, .int .i64 n, .slice A LA.length ca, .slice B LB.length cb] 25)).heap.size = w.heap.size + 1 from by simp] at q
  have hW0 : Below w.heap.size w _ := ((Below.refl _ w).alloc (Nat.le_refl _) (.cells #[.string d, .bool f, .int .i64 l, .int .i64 n, .slice A LA.length ca, .slice B LB.length cb] 25)).alloc (by simp) (.cells #[.int .i64 o, .string dp, .bool fp] 29)
  have hsz : ((w.alloc (.cells #[.string d, .bool f, .int .i64 l, .int .i64 n, .slice A LA.length ca, .slice B LB.length cb] 25)).alloc (.cells #[.int .i64 o, .string dp, .bool fp] 29)).heap.size = w.heap.size + 1 + 1 := by simp
  have HZ := hid_of z
  have HQ := hid_of q
  obtain ⟨⟨z0, z1, z2, z3, z4, z5⟩, zf⟩ := z
  clear q
  have hs0 : ∀ w1 : World, Below ((w.alloc (.cells #[.string d, .bool f, .int .i64 l, .int .i64 n, .slice A LA.length ca, .slice B LB.length cb] 25)).alloc (.cells #[.int .i64 o, .string dp, .bool fp] 29)).heap.size ((w.alloc (.cells #[.string d, .bool f, .int .i64 l, .int .i64 n, .slice A LA.length ca, .slice B LB.length cb] 25)).alloc (.cells #[.int .i64 o, .string dp, .bool fp] 29)) w1 → w.heap.size + 1 + 1 ≤ w1.heap.size := fun w1 h => by have := h.size; omega
  have hs0 := hid_of hs0
  cases v with
  | false =>
    go_enter Try.func59, Try.ntmps59
    go_wp2_with (go_at_call 17; (with_reducible refine (sv_v_s HV.out _ (hA.below hW0) (hB.below hW0) hn hn').mono ?_); rintro e w1 ⟨rfl, hb1⟩; have hw1 := hW0.trans (hb1.mono hW0.size); clear hb1)
    go_ret
    exact ⟨rfl, hw1⟩
  | true =>
    have HD := hid_of (hd rfl)
    clear hd
    go_enter Try.func59, Try.ntmps59
    go_wp2_with (first
      | (go_at_call 17; (with_reducible refine (sv_v_s HV.out _ (hA.below hW0) (hB.below hW0) hn hn').mono ?_); rintro e w1 ⟨rfl, hb1⟩; have hw1 := hW0.trans (hb1.mono hW0.size); have hs1 := hs0.out w1 hb1; have HZ1 := HZ.out.under hb1 (by omega); have HQ1 := HQ.out.under hb1 (by omega); clear hb1 z0 z1 z2 z3 z4 z5 zf; obtain ⟨⟨z0, z1, z2, z3, z4, z5⟩, zf⟩ := HZ1; obtain ⟨⟨q0, q1, q2⟩, qf⟩ := HQ1)
      | (go_at_call 78; (with_reducible refine (sent_s_v HB.out _ HD.out hdp).mono ?_); rintro e w2 ⟨rfl, hb2⟩; have hw2 := hw1.trans (hb2.mono hw1.size); clear hb2))
    go_ret
    exact ⟨rfl, hw2⟩
theorem psent_s {x : Bool} {d : ByteArray} {f : Bool} {l n : Int} {LA LB : List Rg} {A : Option Addr} {ca : Nat} {B : Option Addr} {cb : Nat} {o : Int} {dp : ByteArray} {fp : Bool} (hx : sentOk ⟨d, f, l, n, LA, LB⟩ ⟨o, dp, fp⟩ = x) (w : World) (hA : RngAt w A LA.length LA) (hB : RngAt w B LB.length LB) (hn : LA.length ≤ 2000000) (hn' : LB.length ≤ 2000000) (hdp : dp.size ≤ 2000000) :
    Calls Try.prog 59 #[.agg #[.string d, .bool f, .int .i64 l, .int .i64 n, .slice A LA.length ca, .slice B LB.length cb], .agg #[.int .i64 o, .string dp, .bool fp]] w fun e w' => e = .returned (.bool x) ∧ Below w.heap.size w w' :=
  hx ▸ psent_s_w d f l n LA LB A ca B cb o dp fp w hA hB hn hn' _ _ (hid_of rfl) (hid_of rfl) (fun h => (okS_iff.1 h).len) hdp

set_option maxRecDepth 100000 in
set_option maxHeartbeats 4000000 in
theorem psent_i_w (d : ByteArray) (f : Bool) (l n : Int) (LA LB : List Rg) (A : Option Addr) (ca : Nat) (B : Option Addr) (cb : Nat) (o : Int) (dp : ByteArray) (fp : Bool) (w : World) (hA : RngAt w A LA.length LA) (hB : RngAt w B LB.length LB) (hn : LA.length ≤ 2000000) (hn' : LB.length ≤ 2000000) (v b : Bool) (HV : Hid (okS ⟨d, f, l, n, LA, LB⟩ = v)) (HB : Hid (sentB ⟨d, f, l, n, LA, LB⟩ ⟨o, dp, fp⟩ = b)) (hd : v = true → d.size ≤ 30) (hdp : dp.size ≤ 2000000) :
    Calls Try.prog 33 #[.agg #[.string d, .bool f, .int .i64 l, .int .i64 n, .slice A LA.length ca, .slice B LB.length cb], .agg #[.int .i64 o, .string dp, .bool fp]] w fun e w' => e = .returned (.bool (v && b)) ∧ Below w.heap.size w w' := by
  have z := (Own6.new (d := d) (f := f) (l := l) (n := n) (A := A) (na := LA.length) (ca := ca) (B := B) (nb := LB.length) (cb := cb) w).alloc (.cells #[.int .i64 o, .string dp, .bool fp] 29)
  have q := Own3.new (w.alloc (.cells #[.string d, .bool f, .int .i64 l, .int .i64 n, .slice A LA.length ca, .slice B LB.length cb] 25)) o dp fp
  rw [show (w.alloc (.cells #[.string d, .bool f, .int .i64 l, .int .i64 n, .slice A LA.length ca, .slice B LB.length cb] 25)).heap.size = w.heap.size + 1 from by simp] at q
  have hW0 : Below w.heap.size w _ := ((Below.refl _ w).alloc (Nat.le_refl _) (.cells #[.string d, .bool f, .int .i64 l, .int .i64 n, .slice A LA.length ca, .slice B LB.length cb] 25)).alloc (by simp) (.cells #[.int .i64 o, .string dp, .bool fp] 29)
  have hsz : ((w.alloc (.cells #[.string d, .bool f, .int .i64 l, .int .i64 n, .slice A LA.length ca, .slice B LB.length cb] 25)).alloc (.cells #[.int .i64 o, .string dp, .bool fp] 29)).heap.size = w.heap.size + 1 + 1 := by simp
  have HZ := hid_of z
  have HQ := hid_of q
  obtain ⟨⟨z0, z1, z2, z3, z4, z5⟩, zf⟩ := z
  clear q
  have hs0 : ∀ w1 : World, Below ((w.alloc (.cells #[.string d, .bool f, .int .i64 l, .int .i64 n, .slice A LA.length ca, .slice B LB.length cb] 25)).alloc (.cells #[.int .i64 o, .string dp, .bool fp] 29)).heap.size ((w.alloc (.cells #[.string d, .bool f, .int .i64 l, .int .i64 n, .slice A LA.length ca, .slice B LB.length cb] 25)).alloc (.cells #[.int .i64 o, .string dp, .bool fp] 29)) w1 → w.heap.size + 1 + 1 ≤ w1.heap.size := fun w1 h => by have := h.size; omega
  have hs0 := hid_of hs0
  cases v with
  | false =>
    go_enter Try.func33, Try.ntmps33
    go_wp2_with (go_at_call 34; (with_reducible refine (sv_v_i HV.out _ (hA.below hW0) (hB.below hW0) hn hn').mono ?_); rintro e w1 ⟨rfl, hb1⟩; have hw1 := hW0.trans (hb1.mono hW0.size); clear hb1)
    go_ret
    exact ⟨rfl, hw1⟩
  | true =>
    have HD := hid_of (hd rfl)
    clear hd
    go_enter Try.func33, Try.ntmps33
    go_wp2_with (first
      | (go_at_call 34; (with_reducible refine (sv_v_i HV.out _ (hA.below hW0) (hB.below hW0) hn hn').mono ?_); rintro e w1 ⟨rfl, hb1⟩; have hw1 := hW0.trans (hb1.mono hW0.size); have hs1 := hs0.out w1 hb1; have HZ1 := HZ.out.under hb1 (by omega); have HQ1 := HQ.out.under hb1 (by omega); clear hb1 z0 z1 z2 z3 z4 z5 zf; obtain ⟨⟨z0, z1, z2, z3, z4, z5⟩, zf⟩ := HZ1; obtain ⟨⟨q0, q1, q2⟩, qf⟩ := HQ1)
      | (go_at_call 70; (with_reducible refine (sent_i_v HB.out _ HD.out hdp).mono ?_); rintro e w2 ⟨rfl, hb2⟩; have hw2 := hw1.trans (hb2.mono hw1.size); clear hb2))
    go_ret
    exact ⟨rfl, hw2⟩
theorem psent_i {x : Bool} {d : ByteArray} {f : Bool} {l n : Int} {LA LB : List Rg} {A : Option Addr} {ca : Nat} {B : Option Addr} {cb : Nat} {o : Int} {dp : ByteArray} {fp : Bool} (hx : sentOk ⟨d, f, l, n, LA, LB⟩ ⟨o, dp, fp⟩ = x) (w : World) (hA : RngAt w A LA.length LA) (hB : RngAt w B LB.length LB) (hn : LA.length ≤ 2000000) (hn' : LB.length ≤ 2000000) (hdp : dp.size ≤ 2000000) :
    Calls Try.prog 33 #[.agg #[.string d, .bool f, .int .i64 l, .int .i64 n, .slice A LA.length ca, .slice B LB.length cb], .agg #[.int .i64 o, .string dp, .bool fp]] w fun e w' => e = .returned (.bool x) ∧ Below w.heap.size w w' :=
  hx ▸ psent_i_w d f l n LA LB A ca B cb o dp fp w hA hB hn hn' _ _ (hid_of rfl) (hid_of rfl) (fun h => (okS_iff.1 h).len) hdp

end Go.Proofs.Ytmkmaeblnnfheab
