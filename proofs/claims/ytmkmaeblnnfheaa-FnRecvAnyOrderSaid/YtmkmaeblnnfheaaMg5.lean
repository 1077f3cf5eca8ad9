/- Merged: SentC, SndAs, SndZ, RngF, SndAi, SndLi, SndAx, SndWi, SendAllPlain. -/
import Derived.Test.YtmkmaeblnnfheaaSndS
import Derived.Test.YtmkmaeblnnfheaaSndW
import Derived.Test.YtmkmaeblnnfheaaMg4
import Derived.Test.YtmkmaeblnnfheaaMg1
import Derived.Test.YtmkmaeblnnfheaaSndR
import Derived.Test.YtmkmaeblnnfheaaSndR2
import Derived.Test.YtmkmaeblnnfheaaSndR3
import Derived.Test.YtmkmaeblnnfheaaSndR4
import Derived.Test.YtmkmaeblnnfheaaSndY
import Derived.Test.YtmkmaeblnnfheaaSndY2
import Derived.Test.YtmkmaeblnnfheaaSndY3
import Derived.Test.YtmkmaeblnnfheaaMg2
/- Was a part sent? Both sides answer the same; PartSent on both sides. -/
namespace Go.Proofs.Ytmkmaeblnnfheaa
open Go.RowKit
attribute [local irreducible] Go.wpQuiet

theorem last_eq {o : Int} {dp : ByteArray} {fp : Bool} {ls : Int} (h : Pt.last ⟨o, dp, fp⟩ = ls) : (fp = true ∧ ls = o + dp.size) ∨ (fp = false ∧ ls = o + dp.size - 1) := by
  unfold Pt.last at h
  dsimp only at h
  cases fp
  · right
    rw [if_neg (by decide)] at h
    exact ⟨rfl, h.symm⟩
  · left
    rw [if_pos rfl] at h
    exact ⟨rfl, h.symm⟩

theorem sent_s (d : ByteArray) (f : Bool) (l n : Int) (LA LB : List Rg) (A : Option Addr) (ca : Nat) (B : Option Addr) (cb : Nat) (o : Int) (dp : ByteArray) (fp : Bool) (w : World) (hd : d.size ≤ 30) :
    Calls Try.prog 65 #[.agg #[.string d, .bool f, .int .i64 l, .int .i64 n, .slice A LA.length ca, .slice B LB.length cb], .agg #[.int .i64 o, .string dp, .bool fp]] w fun e w' => e = .returned (.bool (sentB ⟨d, f, l, n, LA, LB⟩ ⟨o, dp, fp⟩)) ∧ Below w.heap.size w w' := by
  obtain ⟨ls, hls⟩ : ∃ x, Pt.last ⟨o, dp, fp⟩ = x := ⟨_, rfl⟩
  have HL := last_eq hls
  by_cases t0 : o < 0
  · rw [sentB_not (s := ⟨d, f, l, n, LA, LB⟩) (p := ⟨o, dp, fp⟩) (fun h => by have := h.o0; dsimp only at *; omega)]
    exact sent_s_0 d f l n LA LB A ca B cb o dp fp ls w (hid_of hls) hd  (decide_eq_true t0)
  by_cases t1 : 30 < o
  · rw [sentB_not (s := ⟨d, f, l, n, LA, LB⟩) (p := ⟨o, dp, fp⟩) (fun h => by have := h.o1; dsimp only at *; omega)]
    exact sent_s_1 d f l n LA LB A ca B cb o dp fp ls w (hid_of hls) hd (decide_eq_false t0) (decide_eq_true t1)
  by_cases t2 : (30 : Int) < (dp.size : Int)
  · rw [sentB_not (s := ⟨d, f, l, n, LA, LB⟩) (p := ⟨o, dp, fp⟩) (fun h => by have := h.fit; have := h.o0; dsimp only at *; omega)]
    exact sent_s_2 d f l n LA LB A ca B cb o dp fp ls w (hid_of hls) hd (decide_eq_false t0) (decide_eq_false t1) (decide_eq_true t2)
  by_cases t3 : ls < o
  · rw [sentB_not (s := ⟨d, f, l, n, LA, LB⟩) (p := ⟨o, dp, fp⟩) (fun h => by have := h.lo; rw [hls] at this; dsimp only at *; omega)]
    exact sent_s_3 d f l n LA LB A ca B cb o dp fp ls w (hid_of hls) hd (decide_eq_false t0) (decide_eq_false t1) (decide_eq_false t2) (decide_eq_true t3)
  by_cases t4 : n ≤ ls
  · rw [sentB_not (s := ⟨d, f, l, n, LA, LB⟩) (p := ⟨o, dp, fp⟩) (fun h => by have := h.hi; rw [hls] at this; dsimp only at *; omega)]
    exact sent_s_4 d f l n LA LB A ca B cb o dp fp ls w (hid_of hls) hd (decide_eq_false t0) (decide_eq_false t1) (decide_eq_false t2) (decide_eq_false t3) (decide_eq_true t4)
  by_cases s0 : ¬ (o + (dp.size : Int) ≤ (d.size : Int))
  · rw [sentB_not (s := ⟨d, f, l, n, LA, LB⟩) (p := ⟨o, dp, fp⟩) (fun h => s0 h.fit)]
    exact sent_s_v1 d f l n LA LB A ca B cb o dp fp ls w (hid_of hls) hd (decide_eq_false t0) (decide_eq_false t1) (decide_eq_false t2) (decide_eq_false t3) (decide_eq_false t4) (decide_eq_false s0)
  replace s0 := Decidable.of_not_not s0
  have hX : d.extract o.toNat (o + (dp.size : Int)).toNat = d.extract o.toNat (o.toNat + dp.size) := by congr 1; omega
  cases s1 : ((d.extract o.toNat (o + (dp.size : Int)).toNat).toList == dp.toList) with
  | false =>
    rw [sentB_not (s := ⟨d, f, l, n, LA, LB⟩) (p := ⟨o, dp, fp⟩) (fun h => by have e := bytes_beq.2 (hX.trans h.data); rw [s1] at e; cases e)]
    exact sent_s_v2 d f l n LA LB A ca B cb o dp fp ls w (hid_of hls) hd (decide_eq_false t0) (decide_eq_false t1) (decide_eq_false t2) (decide_eq_false t3) (decide_eq_false t4) (decide_eq_true s0) s1
  | true =>
    have hdata := hX.symm.trans (bytes_beq.1 s1)
    cases hfp : fp with
    | false =>
      subst hfp
      rw [sentB_iff.2 (⟨by dsimp only; omega, by dsimp only; omega, by rw [hls]; dsimp only; omega, by rw [hls]; dsimp only; omega, s0, hdata, fun e => by cases e⟩ : Sent ⟨d, f, l, n, LA, LB⟩ ⟨o, dp, false⟩)]
      exact sent_s_v3 d f l n LA LB A ca B cb o dp false ls w (hid_of hls) hd (decide_eq_false t0) (decide_eq_false t1) (decide_eq_false t2) (decide_eq_false t3) (decide_eq_false t4) (decide_eq_true s0) s1 (hid_of rfl)
    | true =>
      subst hfp
      cases hf : f with
      | false =>
        rw [sentB_not (s := ⟨d, false, l, n, LA, LB⟩) (p := ⟨o, dp, true⟩) (fun h => by have := (h.fin rfl).1; cases this)]
        exact sent_s_v4 d false l n LA LB A ca B cb o dp true ls w (hid_of hls) hd (decide_eq_false t0) (decide_eq_false t1) (decide_eq_false t2) (decide_eq_false t3) (decide_eq_false t4) (decide_eq_true s0) s1 (hid_of rfl) (hid_of rfl)
      | true =>
        cases s4 : (o + (dp.size : Int) == (d.size : Int)) with
        | false =>
          rw [sentB_not (s := ⟨d, true, l, n, LA, LB⟩) (p := ⟨o, dp, true⟩) (fun h => by have := (h.fin rfl).2; dsimp only at this; rw [beq_eq_false_iff_ne] at s4; exact s4 this)]
          exact sent_s_v5 d true l n LA LB A ca B cb o dp true ls w (hid_of hls) hd (decide_eq_false t0) (decide_eq_false t1) (decide_eq_false t2) (decide_eq_false t3) (decide_eq_false t4) (decide_eq_true s0) s1 (hid_of rfl) (hid_of rfl) s4
        | true =>
          have s4' := beq_iff_eq.1 s4
          rw [sentB_iff.2 (⟨by dsimp only; omega, by dsimp only; omega, by rw [hls]; dsimp only; omega, by rw [hls]; dsimp only; omega, s0, hdata, fun _ => ⟨rfl, s4'⟩⟩ : Sent ⟨d, true, l, n, LA, LB⟩ ⟨o, dp, true⟩)]
          exact sent_s_v6 d true l n LA LB A ca B cb o dp true ls w (hid_of hls) hd (decide_eq_false t0) (decide_eq_false t1) (decide_eq_false t2) (decide_eq_false t3) (decide_eq_false t4) (decide_eq_true s0) s1 (hid_of rfl) (hid_of rfl) s4

theorem sent_i (d : ByteArray) (f : Bool) (l n : Int) (LA LB : List Rg) (A : Option Addr) (ca : Nat) (B : Option Addr) (cb : Nat) (o : Int) (dp : ByteArray) (fp : Bool) (w : World) (hd : d.size ≤ 30) (hdp : dp.size ≤ 2000000) :
    Calls Try.prog 64 #[.agg #[.string d, .bool f, .int .i64 l, .int .i64 n, .slice A LA.length ca, .slice B LB.length cb], .agg #[.int .i64 o, .string dp, .bool fp]] w fun e w' => e = .returned (.bool (sentB ⟨d, f, l, n, LA, LB⟩ ⟨o, dp, fp⟩)) ∧ Below w.heap.size w w' := by
  obtain ⟨ls, hls⟩ : ∃ x, Pt.last ⟨o, dp, fp⟩ = x := ⟨_, rfl⟩
  have HL := last_eq hls
  cases hc : decide (0 ≤ o ∧ o ≤ 30) with
  | false =>
    rw [sentB_not (s := ⟨d, f, l, n, LA, LB⟩) (p := ⟨o, dp, fp⟩) (fun h => of_decide_eq_false hc ⟨h.o0, h.o1⟩)]
    exact sent_i_0 d f l n LA LB A ca B cb o dp fp ls w (hid_of hls) hd hdp (hid_of hc)
  | true =>
    have ho := of_decide_eq_true hc
    by_cases t1 : ls < o
    · rw [sentB_not (s := ⟨d, f, l, n, LA, LB⟩) (p := ⟨o, dp, fp⟩) (fun h => by have := h.lo; rw [hls] at this; dsimp only at *; omega)]
      exact sent_i_1 d f l n LA LB A ca B cb o dp fp ls w (hid_of hls) hd hdp (hid_of hc)  (decide_eq_true t1)
    by_cases t2 : n ≤ ls
    · rw [sentB_not (s := ⟨d, f, l, n, LA, LB⟩) (p := ⟨o, dp, fp⟩) (fun h => by have := h.hi; rw [hls] at this; dsimp only at *; omega)]
      exact sent_i_2 d f l n LA LB A ca B cb o dp fp ls w (hid_of hls) hd hdp (hid_of hc) (decide_eq_false t1) (decide_eq_true t2)
    by_cases t3 : (d.size : Int) < o
    · rw [sentB_not (s := ⟨d, f, l, n, LA, LB⟩) (p := ⟨o, dp, fp⟩) (fun h => by have := h.fit; dsimp only at *; omega)]
      exact sent_i_3 d f l n LA LB A ca B cb o dp fp ls w (hid_of hls) hd hdp (hid_of hc) (decide_eq_false t1) (decide_eq_false t2) (decide_eq_true t3)
    cases hfp : fp with
    | false =>
      subst hfp
      cases hb : pre (d.extract o.toNat d.size) dp with
      | false => rw [sentB_not (s := ⟨d, f, l, n, LA, LB⟩) (p := ⟨o, dp, false⟩) (fun h => by have e := (pre_iff (d := d) (p := dp) (o := o) ho.1 (by omega)).2 ⟨h.fit, h.data⟩; rw [hb] at e; cases e)]; exact sent_i_7 d f l n LA LB A ca B cb o dp false ls w (hid_of hls) hd hdp (hid_of hc) (decide_eq_false t1) (decide_eq_false t2) (decide_eq_false t3) (hid_of rfl) _ (hid_of hb)
      | true => rw [sentB_iff.2 (⟨ho.1, ho.2, by rw [hls]; dsimp only; omega, by rw [hls]; dsimp only; omega, (pre_iff ho.1 (by omega)).1 hb |>.1, (pre_iff ho.1 (by omega)).1 hb |>.2, fun e => by cases e⟩ : Sent ⟨d, f, l, n, LA, LB⟩ ⟨o, dp, false⟩)]; exact sent_i_7 d f l n LA LB A ca B cb o dp false ls w (hid_of hls) hd hdp (hid_of hc) (decide_eq_false t1) (decide_eq_false t2) (decide_eq_false t3) (hid_of rfl) _ (hid_of hb)
    | true =>
      subst hfp
      cases hf : f with
      | false =>
        rw [sentB_not (s := ⟨d, false, l, n, LA, LB⟩) (p := ⟨o, dp, true⟩) (fun h => by have := (h.fin rfl).1; cases this)]
        exact sent_i_5 d false l n LA LB A ca B cb o dp true ls w (hid_of hls) hd hdp (hid_of hc) (decide_eq_false t1) (decide_eq_false t2) (decide_eq_false t3) (hid_of rfl) (hid_of rfl)
      | true =>
        cases s4 : (o + (dp.size : Int) == (d.size : Int)) with
        | false =>
          rw [sentB_not (s := ⟨d, true, l, n, LA, LB⟩) (p := ⟨o, dp, true⟩) (fun h => by have := (h.fin rfl).2; dsimp only at this; rw [beq_eq_false_iff_ne] at s4; exact s4 this)]
          exact sent_i_6 d true l n LA LB A ca B cb o dp true ls w (hid_of hls) hd hdp (hid_of hc) (decide_eq_false t1) (decide_eq_false t2) (decide_eq_false t3) (hid_of rfl) (hid_of rfl) s4
        | true =>
          have s4' := beq_iff_eq.1 s4
          cases hb : pre (d.extract o.toNat d.size) dp with
          | false => rw [sentB_not (s := ⟨d, true, l, n, LA, LB⟩) (p := ⟨o, dp, true⟩) (fun h => by have e := (pre_iff (d := d) (p := dp) (o := o) ho.1 (by omega)).2 ⟨h.fit, h.data⟩; rw [hb] at e; cases e)]; exact sent_i_8 d true l n LA LB A ca B cb o dp true ls w (hid_of hls) hd hdp (hid_of hc) (decide_eq_false t1) (decide_eq_false t2) (decide_eq_false t3) (hid_of rfl) (hid_of rfl) s4 _ (hid_of hb)
          | true => rw [sentB_iff.2 (⟨ho.1, ho.2, by rw [hls]; dsimp only; omega, by rw [hls]; dsimp only; omega, (pre_iff ho.1 (by omega)).1 hb |>.1, (pre_iff ho.1 (by omega)).1 hb |>.2, fun _ => ⟨rfl, s4'⟩⟩ : Sent ⟨d, true, l, n, LA, LB⟩ ⟨o, dp, true⟩)]; exact sent_i_8 d true l n LA LB A ca B cb o dp true ls w (hid_of hls) hd hdp (hid_of hc) (decide_eq_false t1) (decide_eq_false t2) (decide_eq_false t3) (hid_of rfl) (hid_of rfl) s4 _ (hid_of hb)

theorem sent_s_v {x : Bool} {d : ByteArray} {f : Bool} {l n : Int} {LA LB : List Rg} {A : Option Addr} {ca : Nat} {B : Option Addr} {cb : Nat} {o : Int} {dp : ByteArray} {fp : Bool} (hx : sentB ⟨d, f, l, n, LA, LB⟩ ⟨o, dp, fp⟩ = x) (w : World) (hd : d.size ≤ 30) (_ : dp.size ≤ 2000000) :
    Calls Try.prog 65 #[.agg #[.string d, .bool f, .int .i64 l, .int .i64 n, .slice A LA.length ca, .slice B LB.length cb], .agg #[.int .i64 o, .string dp, .bool fp]] w fun e w' => e = .returned (.bool x) ∧ Below w.heap.size w w' := hx ▸ sent_s d f l n LA LB A ca B cb o dp fp w hd
theorem sent_i_v {x : Bool} {d : ByteArray} {f : Bool} {l n : Int} {LA LB : List Rg} {A : Option Addr} {ca : Nat} {B : Option Addr} {cb : Nat} {o : Int} {dp : ByteArray} {fp : Bool} (hx : sentB ⟨d, f, l, n, LA, LB⟩ ⟨o, dp, fp⟩ = x) (w : World) (hd : d.size ≤ 30) (hdp : dp.size ≤ 2000000) :
    Calls Try.prog 64 #[.agg #[.string d, .bool f, .int .i64 l, .int .i64 n, .slice A LA.length ca, .slice B LB.length cb], .agg #[.int .i64 o, .string dp, .bool fp]] w fun e w' => e = .returned (.bool x) ∧ Below w.heap.size w w' := hx ▸ sent_i d f l n LA LB A ca B cb o dp fp w hd hdp
noncomputable def sentOk (s : Sd) (p : Pt) : Bool := okS s && sentB s p
theorem sentOk_iff {s : Sd} {p : Pt} : sentOk s p = true ↔ SV s ∧ Sent s p := by unfold sentOk; rw [Bool.and_eq_true, okS_iff, sentB_iff]
set_option maxRecDepth 100000 in
set_option maxHeartbeats 4000000 in
theorem psent_s_w (d : ByteArray) (f : Bool) (l n : Int) (LA LB : List Rg) (A : Option Addr) (ca : Nat) (B : Option Addr) (cb : Nat) (o : Int) (dp : ByteArray) (fp : Bool) (w : World) (hA : RngAt w A LA.length LA) (hB : RngAt w B LB.length LB) (hn : LA.length ≤ 2000000) (hn' : LB.length ≤ 2000000) (v b : Bool) (HV : Hid (okS ⟨d, f, l, n, LA, LB⟩ = v)) (HB : Hid (sentB ⟨d, f, l, n, LA, LB⟩ ⟨o, dp, fp⟩ = b)) (hd : v = true → d.size ≤ 30) (hdp : dp.size ≤ 2000000) :
    Calls Try.prog 29 #[.agg #[.string d, .bool f, .int .i64 l, .int .i64 n, .slice A LA.length ca, .slice B LB.length cb], .agg #[.int .i64 o, .string dp, .bool fp]] w fun e w' => e = .returned (.bool (v && b)) ∧ Below w.heap.size w w' := by
  have z := (Own6.new (d := d) (f := f) (l := l) (n := n) (A := A) (na := LA.length) (ca := ca) (B := B) (nb := LB.length) (cb := cb) w).alloc (.cells #[.int .i64 o, .string dp, .bool fp] 27)
  have q := Own3.new (w.alloc (.cells #[.string d, .bool f, .int .i64 l, .int .i64 n, .slice A LA.length ca, .slice B LB.length cb] 25)) o dp fp
  rw [show (w.alloc (.cells #[.string d, .bool f, .int .i64 l, .int .i64 n, .slice A LA.length ca, .slice B LB.length cb] 25)).heap.size = w.heap.size + 1 from by simp] at q
  have hW0 : Below w.heap.size w _ := ((Below.refl _ w).alloc (Nat.le_refl _) (.cells #[.string d, .bool f, .int .i64 l, .int .i64 n, .slice A LA.length ca, .slice B LB.length cb] 25)).alloc (by simp) (.cells #[.int .i64 o, .string dp, .bool fp] 27)
  have hsz : ((w.alloc (.cells #[.string d, .bool f, .int .i64 l, .int .i64 n, .slice A LA.length ca, .slice B LB.length cb] 25)).alloc (.cells #[.int .i64 o, .string dp, .bool fp] 27)).heap.size = w.heap.size + 1 + 1 := by simp
  have HZ := hid_of z
  have HQ := hid_of q
  obtain ⟨⟨z0, z1, z2, z3, z4, z5⟩, zf⟩ := z
  clear q
  have hs0 : ∀ w1 : World, Below ((w.alloc (.cells #[.string d, .bool f, .int .i64 l, .int .i64 n, .slice A LA.length ca, .slice B LB.length cb] 25)).alloc (.cells #[.int .i64 o, .string dp, .bool fp] 27)).heap.size ((w.alloc (.cells #[.string d, .bool f, .int .i64 l, .int .i64 n, .slice A LA.length ca, .slice B LB.length cb] 25)).alloc (.cells #[.int .i64 o, .string dp, .bool fp] 27)) w1 → w.heap.size + 1 + 1 ≤ w1.heap.size := fun w1 h => by have := h.size; omega
  have hs0 := hid_of hs0
  cases v with
  | false =>
    go_enter Try.func29, Try.ntmps29
    go_wp2_with (go_at_call 61; (with_reducible refine (sv_v_s HV.out _ (hA.below hW0) (hB.below hW0) hn hn').mono ?_); rintro e w1 ⟨rfl, hb1⟩; have hw1 := hW0.trans (hb1.mono hW0.size); clear hb1)
    go_ret
    exact ⟨rfl, hw1⟩
  | true =>
    have HD := hid_of (hd rfl)
    clear hd
    go_enter Try.func29, Try.ntmps29
    go_wp2_with (first
      | (go_at_call 61; (with_reducible refine (sv_v_s HV.out _ (hA.below hW0) (hB.below hW0) hn hn').mono ?_); rintro e w1 ⟨rfl, hb1⟩; have hw1 := hW0.trans (hb1.mono hW0.size); have hs1 := hs0.out w1 hb1; have HZ1 := HZ.out.under hb1 (by omega); have HQ1 := HQ.out.under hb1 (by omega); clear hb1 z0 z1 z2 z3 z4 z5 zf; obtain ⟨⟨z0, z1, z2, z3, z4, z5⟩, zf⟩ := HZ1; obtain ⟨⟨q0, q1, q2⟩, qf⟩ := HQ1)
      | (go_at_call 65; (with_reducible refine (sent_s_v HB.out _ HD.out hdp).mono ?_); rintro e w2 ⟨rfl, hb2⟩; have hw2 := hw1.trans (hb2.mono hw1.size); clear hb2))
    go_ret
    exact ⟨rfl, hw2⟩
theorem psent_s {x : Bool} {d : ByteArray} {f : Bool} {l n : Int} {LA LB : List Rg} {A : Option Addr} {ca : Nat} {B : Option Addr} {cb : Nat} {o : Int} {dp : ByteArray} {fp : Bool} (hx : sentOk ⟨d, f, l, n, LA, LB⟩ ⟨o, dp, fp⟩ = x) (w : World) (hA : RngAt w A LA.length LA) (hB : RngAt w B LB.length LB) (hn : LA.length ≤ 2000000) (hn' : LB.length ≤ 2000000) (hdp : dp.size ≤ 2000000) :
    Calls Try.prog 29 #[.agg #[.string d, .bool f, .int .i64 l, .int .i64 n, .slice A LA.length ca, .slice B LB.length cb], .agg #[.int .i64 o, .string dp, .bool fp]] w fun e w' => e = .returned (.bool x) ∧ Below w.heap.size w w' :=
  hx ▸ psent_s_w d f l n LA LB A ca B cb o dp fp w hA hB hn hn' _ _ (hid_of rfl) (hid_of rfl) (fun h => (okS_iff.1 h).len) hdp

set_option maxRecDepth 100000 in
set_option maxHeartbeats 4000000 in
theorem psent_i_w (d : ByteArray) (f : Bool) (l n : Int) (LA LB : List Rg) (A : Option Addr) (ca : Nat) (B : Option Addr) (cb : Nat) (o : Int) (dp : ByteArray) (fp : Bool) (w : World) (hA : RngAt w A LA.length LA) (hB : RngAt w B LB.length LB) (hn : LA.length ≤ 2000000) (hn' : LB.length ≤ 2000000) (v b : Bool) (HV : Hid (okS ⟨d, f, l, n, LA, LB⟩ = v)) (HB : Hid (sentB ⟨d, f, l, n, LA, LB⟩ ⟨o, dp, fp⟩ = b)) (hd : v = true → d.size ≤ 30) (hdp : dp.size ≤ 2000000) :
    Calls Try.prog 28 #[.agg #[.string d, .bool f, .int .i64 l, .int .i64 n, .slice A LA.length ca, .slice B LB.length cb], .agg #[.int .i64 o, .string dp, .bool fp]] w fun e w' => e = .returned (.bool (v && b)) ∧ Below w.heap.size w w' := by
  have z := (Own6.new (d := d) (f := f) (l := l) (n := n) (A := A) (na := LA.length) (ca := ca) (B := B) (nb := LB.length) (cb := cb) w).alloc (.cells #[.int .i64 o, .string dp, .bool fp] 27)
  have q := Own3.new (w.alloc (.cells #[.string d, .bool f, .int .i64 l, .int .i64 n, .slice A LA.length ca, .slice B LB.length cb] 25)) o dp fp
  rw [show (w.alloc (.cells #[.string d, .bool f, .int .i64 l, .int .i64 n, .slice A LA.length ca, .slice B LB.length cb] 25)).heap.size = w.heap.size + 1 from by simp] at q
  have hW0 : Below w.heap.size w _ := ((Below.refl _ w).alloc (Nat.le_refl _) (.cells #[.string d, .bool f, .int .i64 l, .int .i64 n, .slice A LA.length ca, .slice B LB.length cb] 25)).alloc (by simp) (.cells #[.int .i64 o, .string dp, .bool fp] 27)
  have hsz : ((w.alloc (.cells #[.string d, .bool f, .int .i64 l, .int .i64 n, .slice A LA.length ca, .slice B LB.length cb] 25)).alloc (.cells #[.int .i64 o, .string dp, .bool fp] 27)).heap.size = w.heap.size + 1 + 1 := by simp
  have HZ := hid_of z
  have HQ := hid_of q
  obtain ⟨⟨z0, z1, z2, z3, z4, z5⟩, zf⟩ := z
  clear q
  have hs0 : ∀ w1 : World, Below ((w.alloc (.cells #[.string d, .bool f, .int .i64 l, .int .i64 n, .slice A LA.length ca, .slice B LB.length cb] 25)).alloc (.cells #[.int .i64 o, .string dp, .bool fp] 27)).heap.size ((w.alloc (.cells #[.string d, .bool f, .int .i64 l, .int .i64 n, .slice A LA.length ca, .slice B LB.length cb] 25)).alloc (.cells #[.int .i64 o, .string dp, .bool fp] 27)) w1 → w.heap.size + 1 + 1 ≤ w1.heap.size := fun w1 h => by have := h.size; omega
  have hs0 := hid_of hs0
  cases v with
  | false =>
    go_enter Try.func28, Try.ntmps28
    go_wp2_with (go_at_call 19; (with_reducible refine (sv_v_i HV.out _ (hA.below hW0) (hB.below hW0) hn hn').mono ?_); rintro e w1 ⟨rfl, hb1⟩; have hw1 := hW0.trans (hb1.mono hW0.size); clear hb1)
    go_ret
    exact ⟨rfl, hw1⟩
  | true =>
    have HD := hid_of (hd rfl)
    clear hd
    go_enter Try.func28, Try.ntmps28
    go_wp2_with (first
      | (go_at_call 19; (with_reducible refine (sv_v_i HV.out _ (hA.below hW0) (hB.below hW0) hn hn').mono ?_); rintro e w1 ⟨rfl, hb1⟩; have hw1 := hW0.trans (hb1.mono hW0.size); have hs1 := hs0.out w1 hb1; have HZ1 := HZ.out.under hb1 (by omega); have HQ1 := HQ.out.under hb1 (by omega); clear hb1 z0 z1 z2 z3 z4 z5 zf; obtain ⟨⟨z0, z1, z2, z3, z4, z5⟩, zf⟩ := HZ1; obtain ⟨⟨q0, q1, q2⟩, qf⟩ := HQ1)
      | (go_at_call 64; (with_reducible refine (sent_i_v HB.out _ HD.out hdp).mono ?_); rintro e w2 ⟨rfl, hb2⟩; have hw2 := hw1.trans (hb2.mono hw1.size); clear hb2))
    go_ret
    exact ⟨rfl, hw2⟩
theorem psent_i {x : Bool} {d : ByteArray} {f : Bool} {l n : Int} {LA LB : List Rg} {A : Option Addr} {ca : Nat} {B : Option Addr} {cb : Nat} {o : Int} {dp : ByteArray} {fp : Bool} (hx : sentOk ⟨d, f, l, n, LA, LB⟩ ⟨o, dp, fp⟩ = x) (w : World) (hA : RngAt w A LA.length LA) (hB : RngAt w B LB.length LB) (hn : LA.length ≤ 2000000) (hn' : LB.length ≤ 2000000) (hdp : dp.size ≤ 2000000) :
    Calls Try.prog 28 #[.agg #[.string d, .bool f, .int .i64 l, .int .i64 n, .slice A LA.length ca, .slice B LB.length cb], .agg #[.int .i64 o, .string dp, .bool fp]] w fun e w' => e = .returned (.bool x) ∧ Below w.heap.size w w' :=
  hx ▸ psent_i_w d f l n LA LB A ca B cb o dp fp w hA hB hn hn' _ _ (hid_of rfl) (hid_of rfl) (fun h => (okS_iff.1 h).len) hdp

end Go.Proofs.Ytmkmaeblnnfheaa
/- SendAck and SendLoss by the reference. -/
namespace Go.Proofs.Ytmkmaeblnnfheaa
open Go.RowKit
attribute [local irreducible] Go.wpQuiet

noncomputable def sendAck (s : Sd) (p : Pt) : Sd × Bool := if sentOk s p = true then (ack s p, true) else (sd0, false)
noncomputable def sendLoss (s : Sd) (p : Pt) : Sd × Bool := if sentOk s p = true then (loss s p, true) else (sd0, false)
theorem sendAck_len (s : Sd) (p : Pt) : (sendAck s p).1.A.length ≤ 16 ∧ (sendAck s p).1.L.length ≤ 16 := by
  unfold sendAck
  split
  · rename_i h
    have h1 := (sentOk_iff.1 h).1.ack (sentOk_iff.1 h).2
    exact ⟨h1.a.1, h1.b.1⟩
  · exact ⟨by show 0 ≤ 16; decide, by show 0 ≤ 16; decide⟩
theorem sendLoss_len (s : Sd) (p : Pt) : (sendLoss s p).1.A.length ≤ 16 ∧ (sendLoss s p).1.L.length ≤ 16 := by
  unfold sendLoss
  split
  · rename_i h
    have h1 := (sentOk_iff.1 h).1.loss (sentOk_iff.1 h).2
    exact ⟨h1.a.1, h1.b.1⟩
  · exact ⟨by show 0 ≤ 16; decide, by show 0 ≤ 16; decide⟩

theorem l32Ack_v {d : ByteArray} {f : Bool} {l n : Int} {LA LB : List Rg} {A : Option Addr} {ca : Nat} {B : Option Addr} {cb : Nat} {o : Int} {dp : ByteArray} {fp : Bool} {x : Sd} (hx : ack ⟨d, f, l, n, LA, LB⟩ ⟨o, dp, fp⟩ = x) (hs : SV ⟨d, f, l, n, LA, LB⟩) (hp : Sent ⟨d, f, l, n, LA, LB⟩ ⟨o, dp, fp⟩) (w : World) (hA : RngAt w A LA.length LA) (hB : RngAt w B LB.length LB) (eA : A = none → ca = 0) (eB : B = none → cb = 0) :
    Calls Try.prog 51 #[.agg #[.string d, .bool f, .int .i64 l, .int .i64 n, .slice A LA.length ca, .slice B LB.length cb], .agg #[.int .i64 o, .string dp, .bool fp]] w fun e w' => (∃ v, e = .returned v ∧ GotSd w x v w') ∧ Below w.heap.size w w' := by
  obtain ⟨⟨h1, h2⟩, h3, h4, h5⟩ := hp.bd hs
  obtain ⟨_, _, _, h6, h7⟩ := hs.bd
  dsimp only at h1 h2 h3 h4 h6 h7
  rw [← hx]
  exact l32Ack_w d f l n LA LB A ca B cb o dp fp _ w hA hB eA eB (by omega) (by omega) rfl (by omega) (by omega) (by omega) _ (spec_add hs.a.2.1 h4) (LInv.of hs.a).wide
theorem l32Loss_v {d : ByteArray} {f : Bool} {l n : Int} {LA LB : List Rg} {A : Option Addr} {ca : Nat} {B : Option Addr} {cb : Nat} {o : Int} {dp : ByteArray} {fp : Bool} {x : Sd} (hx : loss ⟨d, f, l, n, LA, LB⟩ ⟨o, dp, fp⟩ = x) (hs : SV ⟨d, f, l, n, LA, LB⟩) (hp : Sent ⟨d, f, l, n, LA, LB⟩ ⟨o, dp, fp⟩) (w : World) (hA : RngAt w A LA.length LA) (hB : RngAt w B LB.length LB) (eA : A = none → ca = 0) (eB : B = none → cb = 0) :
    Calls Try.prog 57 #[.agg #[.string d, .bool f, .int .i64 l, .int .i64 n, .slice A LA.length ca, .slice B LB.length cb], .agg #[.int .i64 o, .string dp, .bool fp]] w fun e w' => (∃ v, e = .returned v ∧ GotSd w x v w') ∧ Below w.heap.size w w' := by
  obtain ⟨⟨h1, h2⟩, h3, h4, h5⟩ := hp.bd hs
  obtain ⟨_, _, _, h6, h7⟩ := hs.bd
  dsimp only at h1 h2 h3 h4 h6 h7
  rw [← hx]
  exact l32Loss_w d f l n LA LB A ca B cb o dp fp _ w hA hB eA eB (by omega) (by omega) rfl (by omega) (by omega) (by omega) (LInv.of hs.b)


set_option linter.unusedVariables false in
set_option maxRecDepth 100000 in
set_option maxHeartbeats 4000000 in
theorem sack_s_bad (d : ByteArray) (f : Bool) (l n : Int) (LA LB : List Rg) (A : Option Addr) (ca : Nat) (B : Option Addr) (cb : Nat) (o : Int) (dp : ByteArray) (fp : Bool) (w : World) (hA : RngAt w A LA.length LA) (hB : RngAt w B LB.length LB) (eA : A = none → ca = 0) (eB : B = none → cb = 0) (hn : LA.length ≤ 2000000) (hn' : LB.length ≤ 2000000) (hdp : dp.size ≤ 2000000) (HV : Hid (sentOk ⟨d, f, l, n, LA, LB⟩ ⟨o, dp, fp⟩ = false)) :
    Calls Try.prog 15 #[.agg #[.string d, .bool f, .int .i64 l, .int .i64 n, .slice A LA.length ca, .slice B LB.length cb], .agg #[.int .i64 o, .string dp, .bool fp]] w (GotSb w (sd0, false)) := by
  have z := ((Own6.new (d := d) (f := f) (l := l) (n := n) (A := A) (na := LA.length) (ca := ca) (B := B) (nb := LB.length) (cb := cb) w).alloc (.cells #[.int .i64 o, .string dp, .bool fp] 27)).alloc (.cells #[.string (⟨#[]⟩ : ByteArray), .bool false, .int .i64 0, .int .i64 0, .slice none 0 0, .slice none 0 0] 25)
  have q := (Own3.new (w.alloc (.cells #[.string d, .bool f, .int .i64 l, .int .i64 n, .slice A LA.length ca, .slice B LB.length cb] 25)) o dp fp).alloc (.cells #[.string (⟨#[]⟩ : ByteArray), .bool false, .int .i64 0, .int .i64 0, .slice none 0 0, .slice none 0 0] 25)
  have r := Own6.new (d := (⟨#[]⟩ : ByteArray)) (f := false) (l := 0) (n := 0) (A := none) (na := 0) (ca := 0) (B := none) (nb := 0) (cb := 0) ((w.alloc (.cells #[.string d, .bool f, .int .i64 l, .int .i64 n, .slice A LA.length ca, .slice B LB.length cb] 25)).alloc (.cells #[.int .i64 o, .string dp, .bool fp] 27))
  rw [show (w.alloc (.cells #[.string d, .bool f, .int .i64 l, .int .i64 n, .slice A LA.length ca, .slice B LB.length cb] 25)).heap.size = w.heap.size + 1 from by simp] at q
  rw [show ((w.alloc (.cells #[.string d, .bool f, .int .i64 l, .int .i64 n, .slice A LA.length ca, .slice B LB.length cb] 25)).alloc (.cells #[.int .i64 o, .string dp, .bool fp] 27)).heap.size = w.heap.size + 1 + 1 from by simp] at r
  have hW0 : Below w.heap.size w _ := (((Below.refl _ w).alloc (Nat.le_refl _) (.cells #[.string d, .bool f, .int .i64 l, .int .i64 n, .slice A LA.length ca, .slice B LB.length cb] 25)).alloc (by simp) (.cells #[.int .i64 o, .string dp, .bool fp] 27)).alloc (by simp; omega) (.cells #[.string (⟨#[]⟩ : ByteArray), .bool false, .int .i64 0, .int .i64 0, .slice none 0 0, .slice none 0 0] 25)
  have hsz : (((w.alloc (.cells #[.string d, .bool f, .int .i64 l, .int .i64 n, .slice A LA.length ca, .slice B LB.length cb] 25)).alloc (.cells #[.int .i64 o, .string dp, .bool fp] 27)).alloc (.cells #[.string (⟨#[]⟩ : ByteArray), .bool false, .int .i64 0, .int .i64 0, .slice none 0 0, .slice none 0 0] 25)).heap.size = w.heap.size + 1 + 1 + 1 := by simp
  go_enter Try.func15, Try.ntmps15
  have HZ := hid_of z
  have HQ := hid_of q
  have HR := hid_of r
  obtain ⟨⟨z0, z1, z2, z3, z4, z5⟩, zf⟩ := HZ.out
  obtain ⟨⟨q0, q1, q2⟩, qf⟩ := HQ.out
  clear z q r
  go_wp2_with (go_at_call 29; (with_reducible refine (psent_s HV.out _ (hA.below hW0) (hB.below hW0) hn hn' hdp).mono ?_); rintro e w1 ⟨rfl, hb1⟩; have HZ1 := hid_of (HZ.out.under hb1 (by omega)); have HQ1 := hid_of (HQ.out.under hb1 (by omega)); have HR1 := hid_of (HR.out.under hb1 (by omega)); have hw1 := hW0.trans (hb1.mono hW0.size); have hs1 : w.heap.size + 1 + 1 + 1 ≤ w1.heap.size := (by have := hb1.size; omega); clear z0 z1 z2 z3 z4 z5 zf q0 q1 q2 qf hb1; obtain ⟨⟨r0, r1, r2, r3, r4, r5⟩, rf⟩ := HR1.out)
  try simp only [Exit.inBlock, Exit.then]
  refine bodyPost_ret (results_sb rfl rfl rfl (HR1.out.setAll ⟨#[]⟩ false 0 0 none 0 0 none 0 0)) rfl ?_
  refine ⟨⟨_, rfl, got_zero rfl⟩, ?_⟩
  repeat refine Below.setCell ?_ (by dsimp only; omega) _
  exact hw1

set_option linter.unusedVariables false in
set_option maxRecDepth 100000 in
set_option maxHeartbeats 4000000 in
theorem sack_s_ok (d : ByteArray) (f : Bool) (l n : Int) (LA LB : List Rg) (A : Option Addr) (ca : Nat) (B : Option Addr) (cb : Nat) (o : Int) (dp : ByteArray) (fp : Bool) (w : World) (hA : RngAt w A LA.length LA) (hB : RngAt w B LB.length LB) (eA : A = none → ca = 0) (eB : B = none → cb = 0) (hn : LA.length ≤ 2000000) (hn' : LB.length ≤ 2000000) (hdp : dp.size ≤ 2000000) (HV : Hid (sentOk ⟨d, f, l, n, LA, LB⟩ ⟨o, dp, fp⟩ = true)) (d1 : ByteArray) (f1 : Bool) (l1 n1 : Int) (LA1 LB1 : List Rg) (HX : Hid (ack ⟨d, f, l, n, LA, LB⟩ ⟨o, dp, fp⟩ = ⟨d1, f1, l1, n1, LA1, LB1⟩)) :
    Calls Try.prog 15 #[.agg #[.string d, .bool f, .int .i64 l, .int .i64 n, .slice A LA.length ca, .slice B LB.length cb], .agg #[.int .i64 o, .string dp, .bool fp]] w (GotSb w (⟨d1, f1, l1, n1, LA1, LB1⟩, true)) := by
  have z := ((Own6.new (d := d) (f := f) (l := l) (n := n) (A := A) (na := LA.length) (ca := ca) (B := B) (nb := LB.length) (cb := cb) w).alloc (.cells #[.int .i64 o, .string dp, .bool fp] 27)).alloc (.cells #[.string (⟨#[]⟩ : ByteArray), .bool false, .int .i64 0, .int .i64 0, .slice none 0 0, .slice none 0 0] 25)
  have q := (Own3.new (w.alloc (.cells #[.string d, .bool f, .int .i64 l, .int .i64 n, .slice A LA.length ca, .slice B LB.length cb] 25)) o dp fp).alloc (.cells #[.string (⟨#[]⟩ : ByteArray), .bool false, .int .i64 0, .int .i64 0, .slice none 0 0, .slice none 0 0] 25)
  have r := Own6.new (d := (⟨#[]⟩ : ByteArray)) (f := false) (l := 0) (n := 0) (A := none) (na := 0) (ca := 0) (B := none) (nb := 0) (cb := 0) ((w.alloc (.cells #[.string d, .bool f, .int .i64 l, .int .i64 n, .slice A LA.length ca, .slice B LB.length cb] 25)).alloc (.cells #[.int .i64 o, .string dp, .bool fp] 27))
  rw [show (w.alloc (.cells #[.string d, .bool f, .int .i64 l, .int .i64 n, .slice A LA.length ca, .slice B LB.length cb] 25)).heap.size = w.heap.size + 1 from by simp] at q
  rw [show ((w.alloc (.cells #[.string d, .bool f, .int .i64 l, .int .i64 n, .slice A LA.length ca, .slice B LB.length cb] 25)).alloc (.cells #[.int .i64 o, .string dp, .bool fp] 27)).heap.size = w.heap.size + 1 + 1 from by simp] at r
  have hW0 : Below w.heap.size w _ := (((Below.refl _ w).alloc (Nat.le_refl _) (.cells #[.string d, .bool f, .int .i64 l, .int .i64 n, .slice A LA.length ca, .slice B LB.length cb] 25)).alloc (by simp) (.cells #[.int .i64 o, .string dp, .bool fp] 27)).alloc (by simp; omega) (.cells #[.string (⟨#[]⟩ : ByteArray), .bool false, .int .i64 0, .int .i64 0, .slice none 0 0, .slice none 0 0] 25)
  have hsz : (((w.alloc (.cells #[.string d, .bool f, .int .i64 l, .int .i64 n, .slice A LA.length ca, .slice B LB.length cb] 25)).alloc (.cells #[.int .i64 o, .string dp, .bool fp] 27)).alloc (.cells #[.string (⟨#[]⟩ : ByteArray), .bool false, .int .i64 0, .int .i64 0, .slice none 0 0, .slice none 0 0] 25)).heap.size = w.heap.size + 1 + 1 + 1 := by simp
  go_enter Try.func15, Try.ntmps15
  have HZ := hid_of z
  have HQ := hid_of q
  have HR := hid_of r
  obtain ⟨⟨z0, z1, z2, z3, z4, z5⟩, zf⟩ := HZ.out
  obtain ⟨⟨q0, q1, q2⟩, qf⟩ := HQ.out
  clear z q r
  go_wp2_with (first
    | (go_at_call 29; (with_reducible refine (psent_s HV.out _ (hA.below hW0) (hB.below hW0) hn hn' hdp).mono ?_); rintro e w1 ⟨rfl, hb1⟩; have HZ1 := hid_of (HZ.out.under hb1 (by omega)); have HQ1 := hid_of (HQ.out.under hb1 (by omega)); have HR1 := hid_of (HR.out.under hb1 (by omega)); have hw1 := hW0.trans (hb1.mono hW0.size); have hs1 : w.heap.size + 1 + 1 + 1 ≤ w1.heap.size := (by have := hb1.size; omega); clear z0 z1 z2 z3 z4 z5 zf q0 q1 q2 qf hb1; obtain ⟨⟨z0, z1, z2, z3, z4, z5⟩, zf⟩ := HZ1.out; obtain ⟨⟨q0, q1, q2⟩, qf⟩ := HQ1.out)
    | (go_at_call 51; (with_reducible refine (l32Ack_v HX.out (sentOk_iff.1 HV.out).1 (sentOk_iff.1 HV.out).2 _ (hA.below hw1) (hB.below hw1) eA eB).mono ?_); rintro e w2 ⟨⟨_, rfl, A1, c1, B1, c2, rfl, hI1, hJ1, hap⟩, hb2⟩; have HR2 := hid_of (HR1.out.under hb2 (by omega)); have hw2 := hw1.trans (hb2.mono hw1.size); have hs2 := hb2.size; clear z0 z1 z2 z3 z4 z5 zf q0 q1 q2 qf; obtain ⟨⟨r0, r1, r2, r3, r4, r5⟩, rf⟩ := HR2.out))
  try simp only [Exit.inBlock, Exit.then]
  refine bodyPost_ret (results_sb rfl rfl rfl (HR2.out.setAll d1 f1 l1 n1 A1 LA1.length c1 B1 LB1.length c2)) rfl ?_
  refine ⟨⟨_, rfl, A1, c1, B1, c2, rfl, ?_, ?_, hap⟩, ?_⟩
  · refine RngIn.mono (B := w1.heap.size) (S := w2.heap.size) ?_ (by omega) (by simp [World.setCell])
    repeat refine RngIn.setLow ?_ (by dsimp only; omega) _
    exact hI1
  · refine RngIn.mono (B := w1.heap.size) (S := w2.heap.size) ?_ (by omega) (by simp [World.setCell])
    repeat refine RngIn.setLow ?_ (by dsimp only; omega) _
    exact hJ1
  · repeat refine Below.setCell ?_ (by dsimp only; omega) _
    exact hw2

theorem sack_s (d : ByteArray) (f : Bool) (l n : Int) (LA LB : List Rg) (A : Option Addr) (ca : Nat) (B : Option Addr) (cb : Nat) (o : Int) (dp : ByteArray) (fp : Bool) (w : World) (hA : RngAt w A LA.length LA) (hB : RngAt w B LB.length LB) (eA : A = none → ca = 0) (eB : B = none → cb = 0) (hn : LA.length ≤ 2000000) (hn' : LB.length ≤ 2000000) (hdp : dp.size ≤ 2000000) :
    Calls Try.prog 15 #[.agg #[.string d, .bool f, .int .i64 l, .int .i64 n, .slice A LA.length ca, .slice B LB.length cb], .agg #[.int .i64 o, .string dp, .bool fp]] w (GotSb w (sendAck ⟨d, f, l, n, LA, LB⟩ ⟨o, dp, fp⟩)) := by
  unfold sendAck
  cases hv : sentOk ⟨d, f, l, n, LA, LB⟩ ⟨o, dp, fp⟩ with
  | false => rw [if_neg (by decide)]; exact sack_s_bad d f l n LA LB A ca B cb o dp fp w hA hB eA eB hn hn' hdp hv
  | true => rw [if_pos rfl]; exact sack_s_ok d f l n LA LB A ca B cb o dp fp w hA hB eA eB hn hn' hdp hv _ _ _ _ _ _ (hid_of rfl)

set_option linter.unusedVariables false in
set_option maxRecDepth 100000 in
set_option maxHeartbeats 4000000 in
theorem sloss_s_bad (d : ByteArray) (f : Bool) (l n : Int) (LA LB : List Rg) (A : Option Addr) (ca : Nat) (B : Option Addr) (cb : Nat) (o : Int) (dp : ByteArray) (fp : Bool) (w : World) (hA : RngAt w A LA.length LA) (hB : RngAt w B LB.length LB) (eA : A = none → ca = 0) (eB : B = none → cb = 0) (hn : LA.length ≤ 2000000) (hn' : LB.length ≤ 2000000) (hdp : dp.size ≤ 2000000) (HV : Hid (sentOk ⟨d, f, l, n, LA, LB⟩ ⟨o, dp, fp⟩ = false)) :
    Calls Try.prog 22 #[.agg #[.string d, .bool f, .int .i64 l, .int .i64 n, .slice A LA.length ca, .slice B LB.length cb], .agg #[.int .i64 o, .string dp, .bool fp]] w (GotSb w (sd0, false)) := by
  have z := ((Own6.new (d := d) (f := f) (l := l) (n := n) (A := A) (na := LA.length) (ca := ca) (B := B) (nb := LB.length) (cb := cb) w).alloc (.cells #[.int .i64 o, .string dp, .bool fp] 27)).alloc (.cells #[.string (⟨#[]⟩ : ByteArray), .bool false, .int .i64 0, .int .i64 0, .slice none 0 0, .slice none 0 0] 25)
  have q := (Own3.new (w.alloc (.cells #[.string d, .bool f, .int .i64 l, .int .i64 n, .slice A LA.length ca, .slice B LB.length cb] 25)) o dp fp).alloc (.cells #[.string (⟨#[]⟩ : ByteArray), .bool false, .int .i64 0, .int .i64 0, .slice none 0 0, .slice none 0 0] 25)
  have r := Own6.new (d := (⟨#[]⟩ : ByteArray)) (f := false) (l := 0) (n := 0) (A := none) (na := 0) (ca := 0) (B := none) (nb := 0) (cb := 0) ((w.alloc (.cells #[.string d, .bool f, .int .i64 l, .int .i64 n, .slice A LA.length ca, .slice B LB.length cb] 25)).alloc (.cells #[.int .i64 o, .string dp, .bool fp] 27))
  rw [show (w.alloc (.cells #[.string d, .bool f, .int .i64 l, .int .i64 n, .slice A LA.length ca, .slice B LB.length cb] 25)).heap.size = w.heap.size + 1 from by simp] at q
  rw [show ((w.alloc (.cells #[.string d, .bool f, .int .i64 l, .int .i64 n, .slice A LA.length ca, .slice B LB.length cb] 25)).alloc (.cells #[.int .i64 o, .string dp, .bool fp] 27)).heap.size = w.heap.size + 1 + 1 from by simp] at r
  have hW0 : Below w.heap.size w _ := (((Below.refl _ w).alloc (Nat.le_refl _) (.cells #[.string d, .bool f, .int .i64 l, .int .i64 n, .slice A LA.length ca, .slice B LB.length cb] 25)).alloc (by simp) (.cells #[.int .i64 o, .string dp, .bool fp] 27)).alloc (by simp; omega) (.cells #[.string (⟨#[]⟩ : ByteArray), .bool false, .int .i64 0, .int .i64 0, .slice none 0 0, .slice none 0 0] 25)
  have hsz : (((w.alloc (.cells #[.string d, .bool f, .int .i64 l, .int .i64 n, .slice A LA.length ca, .slice B LB.length cb] 25)).alloc (.cells #[.int .i64 o, .string dp, .bool fp] 27)).alloc (.cells #[.string (⟨#[]⟩ : ByteArray), .bool false, .int .i64 0, .int .i64 0, .slice none 0 0, .slice none 0 0] 25)).heap.size = w.heap.size + 1 + 1 + 1 := by simp
  go_enter Try.func22, Try.ntmps22
  have HZ := hid_of z
  have HQ := hid_of q
  have HR := hid_of r
  obtain ⟨⟨z0, z1, z2, z3, z4, z5⟩, zf⟩ := HZ.out
  obtain ⟨⟨q0, q1, q2⟩, qf⟩ := HQ.out
  clear z q r
  go_wp2_with (go_at_call 29; (with_reducible refine (psent_s HV.out _ (hA.below hW0) (hB.below hW0) hn hn' hdp).mono ?_); rintro e w1 ⟨rfl, hb1⟩; have HZ1 := hid_of (HZ.out.under hb1 (by omega)); have HQ1 := hid_of (HQ.out.under hb1 (by omega)); have HR1 := hid_of (HR.out.under hb1 (by omega)); have hw1 := hW0.trans (hb1.mono hW0.size); have hs1 : w.heap.size + 1 + 1 + 1 ≤ w1.heap.size := (by have := hb1.size; omega); clear z0 z1 z2 z3 z4 z5 zf q0 q1 q2 qf hb1; obtain ⟨⟨r0, r1, r2, r3, r4, r5⟩, rf⟩ := HR1.out)
  try simp only [Exit.inBlock, Exit.then]
  refine bodyPost_ret (results_sb rfl rfl rfl (HR1.out.setAll ⟨#[]⟩ false 0 0 none 0 0 none 0 0)) rfl ?_
  refine ⟨⟨_, rfl, got_zero rfl⟩, ?_⟩
  repeat refine Below.setCell ?_ (by dsimp only; omega) _
  exact hw1

set_option linter.unusedVariables false in
set_option maxRecDepth 100000 in
set_option maxHeartbeats 4000000 in
theorem sloss_s_ok (d : ByteArray) (f : Bool) (l n : Int) (LA LB : List Rg) (A : Option Addr) (ca : Nat) (B : Option Addr) (cb : Nat) (o : Int) (dp : ByteArray) (fp : Bool) (w : World) (hA : RngAt w A LA.length LA) (hB : RngAt w B LB.length LB) (eA : A = none → ca = 0) (eB : B = none → cb = 0) (hn : LA.length ≤ 2000000) (hn' : LB.length ≤ 2000000) (hdp : dp.size ≤ 2000000) (HV : Hid (sentOk ⟨d, f, l, n, LA, LB⟩ ⟨o, dp, fp⟩ = true)) (d1 : ByteArray) (f1 : Bool) (l1 n1 : Int) (LA1 LB1 : List Rg) (HX : Hid (loss ⟨d, f, l, n, LA, LB⟩ ⟨o, dp, fp⟩ = ⟨d1, f1, l1, n1, LA1, LB1⟩)) :
    Calls Try.prog 22 #[.agg #[.string d, .bool f, .int .i64 l, .int .i64 n, .slice A LA.length ca, .slice B LB.length cb], .agg #[.int .i64 o, .string dp, .bool fp]] w (GotSb w (⟨d1, f1, l1, n1, LA1, LB1⟩, true)) := by
  have z := ((Own6.new (d := d) (f := f) (l := l) (n := n) (A := A) (na := LA.length) (ca := ca) (B := B) (nb := LB.length) (cb := cb) w).alloc (.cells #[.int .i64 o, .string dp, .bool fp] 27)).alloc (.cells #[.string (⟨#[]⟩ : ByteArray), .bool false, .int .i64 0, .int .i64 0, .slice none 0 0, .slice none 0 0] 25)
  have q := (Own3.new (w.alloc (.cells #[.string d, .bool f, .int .i64 l, .int .i64 n, .slice A LA.length ca, .slice B LB.length cb] 25)) o dp fp).alloc (.cells #[.string (⟨#[]⟩ : ByteArray), .bool false, .int .i64 0, .int .i64 0, .slice none 0 0, .slice none 0 0] 25)
  have r := Own6.new (d := (⟨#[]⟩ : ByteArray)) (f := false) (l := 0) (n := 0) (A := none) (na := 0) (ca := 0) (B := none) (nb := 0) (cb := 0) ((w.alloc (.cells #[.string d, .bool f, .int .i64 l, .int .i64 n, .slice A LA.length ca, .slice B LB.length cb] 25)).alloc (.cells #[.int .i64 o, .string dp, .bool fp] 27))
  rw [show (w.alloc (.cells #[.string d, .bool f, .int .i64 l, .int .i64 n, .slice A LA.length ca, .slice B LB.length cb] 25)).heap.size = w.heap.size + 1 from by simp] at q
  rw [show ((w.alloc (.cells #[.string d, .bool f, .int .i64 l, .int .i64 n, .slice A LA.length ca, .slice B LB.length cb] 25)).alloc (.cells #[.int .i64 o, .string dp, .bool fp] 27)).heap.size = w.heap.size + 1 + 1 from by simp] at r
  have hW0 : Below w.heap.size w _ := (((Below.refl _ w).alloc (Nat.le_refl _) (.cells #[.string d, .bool f, .int .i64 l, .int .i64 n, .slice A LA.length ca, .slice B LB.length cb] 25)).alloc (by simp) (.cells #[.int .i64 o, .string dp, .bool fp] 27)).alloc (by simp; omega) (.cells #[.string (⟨#[]⟩ : ByteArray), .bool false, .int .i64 0, .int .i64 0, .slice none 0 0, .slice none 0 0] 25)
  have hsz : (((w.alloc (.cells #[.string d, .bool f, .int .i64 l, .int .i64 n, .slice A LA.length ca, .slice B LB.length cb] 25)).alloc (.cells #[.int .i64 o, .string dp, .bool fp] 27)).alloc (.cells #[.string (⟨#[]⟩ : ByteArray), .bool false, .int .i64 0, .int .i64 0, .slice none 0 0, .slice none 0 0] 25)).heap.size = w.heap.size + 1 + 1 + 1 := by simp
  go_enter Try.func22, Try.ntmps22
  have HZ := hid_of z
  have HQ := hid_of q
  have HR := hid_of r
  obtain ⟨⟨z0, z1, z2, z3, z4, z5⟩, zf⟩ := HZ.out
  obtain ⟨⟨q0, q1, q2⟩, qf⟩ := HQ.out
  clear z q r
  go_wp2_with (first
    | (go_at_call 29; (with_reducible refine (psent_s HV.out _ (hA.below hW0) (hB.below hW0) hn hn' hdp).mono ?_); rintro e w1 ⟨rfl, hb1⟩; have HZ1 := hid_of (HZ.out.under hb1 (by omega)); have HQ1 := hid_of (HQ.out.under hb1 (by omega)); have HR1 := hid_of (HR.out.under hb1 (by omega)); have hw1 := hW0.trans (hb1.mono hW0.size); have hs1 : w.heap.size + 1 + 1 + 1 ≤ w1.heap.size := (by have := hb1.size; omega); clear z0 z1 z2 z3 z4 z5 zf q0 q1 q2 qf hb1; obtain ⟨⟨z0, z1, z2, z3, z4, z5⟩, zf⟩ := HZ1.out; obtain ⟨⟨q0, q1, q2⟩, qf⟩ := HQ1.out)
    | (go_at_call 57; (with_reducible refine (l32Loss_v HX.out (sentOk_iff.1 HV.out).1 (sentOk_iff.1 HV.out).2 _ (hA.below hw1) (hB.below hw1) eA eB).mono ?_); rintro e w2 ⟨⟨_, rfl, A1, c1, B1, c2, rfl, hI1, hJ1, hap⟩, hb2⟩; have HR2 := hid_of (HR1.out.under hb2 (by omega)); have hw2 := hw1.trans (hb2.mono hw1.size); have hs2 := hb2.size; clear z0 z1 z2 z3 z4 z5 zf q0 q1 q2 qf; obtain ⟨⟨r0, r1, r2, r3, r4, r5⟩, rf⟩ := HR2.out))
  try simp only [Exit.inBlock, Exit.then]
  refine bodyPost_ret (results_sb rfl rfl rfl (HR2.out.setAll d1 f1 l1 n1 A1 LA1.length c1 B1 LB1.length c2)) rfl ?_
  refine ⟨⟨_, rfl, A1, c1, B1, c2, rfl, ?_, ?_, hap⟩, ?_⟩
  · refine RngIn.mono (B := w1.heap.size) (S := w2.heap.size) ?_ (by omega) (by simp [World.setCell])
    repeat refine RngIn.setLow ?_ (by dsimp only; omega) _
    exact hI1
  · refine RngIn.mono (B := w1.heap.size) (S := w2.heap.size) ?_ (by omega) (by simp [World.setCell])
    repeat refine RngIn.setLow ?_ (by dsimp only; omega) _
    exact hJ1
  · repeat refine Below.setCell ?_ (by dsimp only; omega) _
    exact hw2

theorem sloss_s (d : ByteArray) (f : Bool) (l n : Int) (LA LB : List Rg) (A : Option Addr) (ca : Nat) (B : Option Addr) (cb : Nat) (o : Int) (dp : ByteArray) (fp : Bool) (w : World) (hA : RngAt w A LA.length LA) (hB : RngAt w B LB.length LB) (eA : A = none → ca = 0) (eB : B = none → cb = 0) (hn : LA.length ≤ 2000000) (hn' : LB.length ≤ 2000000) (hdp : dp.size ≤ 2000000) :
    Calls Try.prog 22 #[.agg #[.string d, .bool f, .int .i64 l, .int .i64 n, .slice A LA.length ca, .slice B LB.length cb], .agg #[.int .i64 o, .string dp, .bool fp]] w (GotSb w (sendLoss ⟨d, f, l, n, LA, LB⟩ ⟨o, dp, fp⟩)) := by
  unfold sendLoss
  cases hv : sentOk ⟨d, f, l, n, LA, LB⟩ ⟨o, dp, fp⟩ with
  | false => rw [if_neg (by decide)]; exact sloss_s_bad d f l n LA LB A ca B cb o dp fp w hA hB eA eB hn hn' hdp hv
  | true => rw [if_pos rfl]; exact sloss_s_ok d f l n LA LB A ca B cb o dp fp w hA hB eA eB hn hn' hdp hv _ _ _ _ _ _ (hid_of rfl)

end Go.Proofs.Ytmkmaeblnnfheaa
/- The program's SendNext: all ways. -/
namespace Go.Proofs.Ytmkmaeblnnfheaa
open Go.RowKit
attribute [local irreducible] Go.wpQuiet

theorem nextI_lost {s : Sd} {lo hi : Int} {T : List Rg} {k e : Int} {fin : Bool} (hL : s.L = ⟨lo, hi⟩ :: T) (he : max lo (min (min (hi + 1) (s.d.size : Int)) (lo + k)) = e) (hf : decide (hi = (s.d.size : Int) ∧ e = (s.d.size : Int) ∧ lo ≤ hi) = fin) (hne : ¬ (e = lo ∧ fin = false)) :
    nextI s k = ({ s with L := remove s.L lo (Pt.last ⟨lo, s.d.extract lo.toNat e.toNat, fin⟩) }, ⟨lo, s.d.extract lo.toNat e.toNat, fin⟩, true) := by
  unfold nextI
  rw [hL]
  dsimp only
  rw [he, hf, if_neg hne]
theorem nextI_new {s : Sd} {k e : Int} {fin : Bool} (hL : s.L = []) (he : max s.n (min (min (min (s.pos - 1 + 1) (s.d.size : Int)) s.l) (s.n + k)) = e) (hf : decide (s.pos - 1 = (s.d.size : Int) ∧ e = (s.d.size : Int) ∧ s.n ≤ s.pos - 1) = fin) (hne : ¬ (e = s.n ∧ fin = false)) :
    nextI s k = ({ s with n := Pt.last ⟨s.n, s.d.extract s.n.toNat e.toNat, fin⟩ + 1 }, ⟨s.n, s.d.extract s.n.toNat e.toNat, fin⟩, true) := by
  unfold nextI
  rw [hL]
  dsimp only
  rw [he, hf, if_neg hne]
theorem nextI_none {s : Sd} {k e : Int} (hL : s.L = []) (he : max s.n (min (min (min (s.pos - 1 + 1) (s.d.size : Int)) s.l) (s.n + k)) = e) (hf : decide (s.pos - 1 = (s.d.size : Int) ∧ e = (s.d.size : Int) ∧ s.n ≤ s.pos - 1) = false) (hne : e = s.n) :
    nextI s k = (s, pt0, false) := by
  unfold nextI
  rw [hL]
  dsimp only
  rw [he, hf, if_pos ⟨hne, rfl⟩]
theorem beq_t {a b : Int} (h : a = b) : (a == b) = true := by rw [h]; exact beq_self_eq_true b
theorem beq_f {a b : Int} (h : ¬ a = b) : (a == b) = false := beq_eq_false_iff_ne.2 h

theorem snext_i_lost (d : ByteArray) (f : Bool) (l n : Int) (LA LB : List Rg) (A : Option Addr) (ca : Nat) (B : Option Addr) (cb : Nat) (k : Int) (w : World) (hA : RngAt w A LA.length LA) (hB : RngAt w B LB.length LB) (eA : A = none → ca = 0) (eB : B = none → cb = 0) (hn : LA.length ≤ 2000000) (hn' : LB.length ≤ 2000000) (HV : Hid (okS ⟨d, f, l, n, LA, LB⟩ = true)) (HC : Hid (decide (1 ≤ k ∧ k ≤ 12) = true)) (lo hi : Int) (T : List Rg) (hL : LB = ⟨lo, hi⟩ :: T) :
    Calls Try.prog 23 #[.agg #[.string d, .bool f, .int .i64 l, .int .i64 n, .slice A LA.length ca, .slice B LB.length cb], .int .i64 k] w (GotNext w (nextI ⟨d, f, l, n, LA, LB⟩ k)) := by
  have hk := of_decide_eq_true HC.out
  have hlo := (okS_iff.1 HV.out).lost (r := ⟨lo, hi⟩) (by show _ ∈ LB; rw [hL]; exact List.mem_cons_self)
  dsimp only at hlo
  obtain ⟨st, hst⟩ : ∃ x, (if (d.size : Int) < hi + 1 then (d.size : Int) else hi + 1) = x := ⟨_, rfl⟩
  obtain ⟨m, hm⟩ : ∃ x, (if lo + k < st then lo + k else st) = x := ⟨_, rfl⟩
  obtain ⟨e, he⟩ : ∃ x, (if lo < m then m else lo) = x := ⟨_, rfl⟩
  have e1 : st = min (hi + 1) (d.size : Int) := by rw [← hst]; split <;> omega
  have e2 : m = min st (lo + k) := by rw [← hm]; split <;> omega
  have e3 : e = max lo m := by rw [← he]; split <;> omega
  have e4 : max lo (min (min (hi + 1) (d.size : Int)) (lo + k)) = e := by omega
  by_cases h1 : hi = (d.size : Int)
  · by_cases h2 : e = (d.size : Int)
    · have hf : decide (hi = (d.size : Int) ∧ e = (d.size : Int) ∧ lo ≤ hi) = true := decide_eq_true ⟨h1, h2, hlo.2.1⟩
      rw [nextI_lost (s := ⟨d, f, l, n, LA, LB⟩) hL e4 hf (by rintro ⟨_, e⟩; cases e)]
      by_cases h4 : e = lo
      · exact snext_i_lost4 d f l n LA LB A ca B cb k w hA hB eA eB hn hn' HV HC lo hi T hL st m e hst hm he (beq_t h1) (beq_t h2) (beq_t h4) _ rfl
      · exact snext_i_lost3 d f l n LA LB A ca B cb k w hA hB eA eB hn hn' HV HC lo hi T hL st m e hst hm he (beq_t h1) (beq_t h2) (beq_f h4) _ rfl
    · have hf : decide (hi = (d.size : Int) ∧ e = (d.size : Int) ∧ lo ≤ hi) = false := decide_eq_false (fun h => h2 h.2.1)
      have h4 : ¬ e = lo := by omega
      rw [nextI_lost (s := ⟨d, f, l, n, LA, LB⟩) hL e4 hf (fun h => h4 h.1)]
      exact snext_i_lost2 d f l n LA LB A ca B cb k w hA hB eA eB hn hn' HV HC lo hi T hL st m e hst hm he (beq_t h1) (beq_f h2) (beq_f h4) _ rfl
  · have hf : decide (hi = (d.size : Int) ∧ e = (d.size : Int) ∧ lo ≤ hi) = false := decide_eq_false (fun h => h1 h.1)
    have h4 : ¬ e = lo := by omega
    rw [nextI_lost (s := ⟨d, f, l, n, LA, LB⟩) hL e4 hf (fun h => h4 h.1)]
    exact snext_i_lost1 d f l n LA LB A ca B cb k w hA hB eA eB hn hn' HV HC lo hi T hL st m e hst hm he (beq_f h1) (beq_f h4) _ rfl

theorem snext_i_fresh (d : ByteArray) (f : Bool) (l n : Int) (LA LB : List Rg) (A : Option Addr) (ca : Nat) (B : Option Addr) (cb : Nat) (k : Int) (w : World) (hA : RngAt w A LA.length LA) (hB : RngAt w B LB.length LB) (eA : A = none → ca = 0) (eB : B = none → cb = 0) (hn : LA.length ≤ 2000000) (hn' : LB.length ≤ 2000000) (HV : Hid (okS ⟨d, f, l, n, LA, LB⟩ = true)) (HC : Hid (decide (1 ≤ k ∧ k ≤ 12) = true)) (hL : LB = []) :
    Calls Try.prog 23 #[.agg #[.string d, .bool f, .int .i64 l, .int .i64 n, .slice A LA.length ca, .slice B LB.length cb], .int .i64 k] w (GotNext w (nextI ⟨d, f, l, n, LA, LB⟩ k)) := by
  have hk := of_decide_eq_true HC.out
  obtain ⟨pos, HP⟩ : ∃ x, Sd.pos ⟨d, f, l, n, LA, LB⟩ = x := ⟨_, rfl⟩
  have hsv := okS_iff.1 HV.out
  have hnp : n ≤ pos := by have := hsv.n1; rw [HP] at this; exact this
  have hpb : (d.size : Int) ≤ pos ∧ pos ≤ (d.size : Int) + 1 := by have e1 : (d.size : Int) ≤ Sd.pos ⟨d, f, l, n, LA, LB⟩ ∧ Sd.pos ⟨d, f, l, n, LA, LB⟩ ≤ (d.size : Int) + 1 := pos_le _; rw [HP] at e1; exact e1
  obtain ⟨st, hst⟩ : ∃ x, (if (d.size : Int) < pos then (d.size : Int) else pos) = x := ⟨_, rfl⟩
  obtain ⟨st2, hst2⟩ : ∃ x, (if l < st then l else st) = x := ⟨_, rfl⟩
  obtain ⟨m, hm⟩ : ∃ x, (if n + k < st2 then n + k else st2) = x := ⟨_, rfl⟩
  obtain ⟨e, he⟩ : ∃ x, (if n < m then m else n) = x := ⟨_, rfl⟩
  have e1 : st = min (d.size : Int) pos := by rw [← hst]; split <;> omega
  have e2 : st2 = min l st := by rw [← hst2]; split <;> omega
  have e3 : m = min (n + k) st2 := by rw [← hm]; split <;> omega
  have e4 : e = max n m := by rw [← he]; split <;> omega
  have e5 : max n (min (min (min (Sd.pos ⟨d, f, l, n, LA, LB⟩ - 1 + 1) (d.size : Int)) l) (n + k)) = e := by rw [HP]; omega
  have hF : ∀ b, decide (pos - 1 = (d.size : Int) ∧ e = (d.size : Int) ∧ n ≤ pos - 1) = b → decide (Sd.pos ⟨d, f, l, n, LA, LB⟩ - 1 = (d.size : Int) ∧ e = (d.size : Int) ∧ n ≤ Sd.pos ⟨d, f, l, n, LA, LB⟩ - 1) = b := fun b h => by rw [HP]; exact h
  by_cases h1 : pos - 1 = (d.size : Int)
  · by_cases h2 : e = (d.size : Int)
    · have h3 : n ≤ pos - 1 := by omega
      rw [nextI_new (s := ⟨d, f, l, n, LA, LB⟩) hL e5 (hF true (decide_eq_true ⟨h1, h2, h3⟩)) (by rintro ⟨_, e⟩; cases e)]
      by_cases h4 : e = n
      · exact snext_i_new4 d f l n LA LB A ca B cb k w hA hB eA eB hn hn' HV HC hL pos (hid_of HP) st st2 m e hst hst2 hm he (beq_t h1) (beq_t h2) (decide_eq_true h3) (beq_t h4) _ rfl
      · exact snext_i_new3 d f l n LA LB A ca B cb k w hA hB eA eB hn hn' HV HC hL pos (hid_of HP) st st2 m e hst hst2 hm he (beq_t h1) (beq_t h2) (decide_eq_true h3) (beq_f h4) _ rfl
    · have hf := hF false (decide_eq_false (fun h => h2 h.2.1))
      by_cases h4 : e = n
      · rw [nextI_none (s := ⟨d, f, l, n, LA, LB⟩) hL e5 hf h4]
        exact snext_i_none2 d f l n LA LB A ca B cb k w hA hB eA eB hn hn' HV HC hL pos (hid_of HP) st st2 m e hst hst2 hm he (beq_t h1) (beq_f h2) (beq_t h4)
      · rw [nextI_new (s := ⟨d, f, l, n, LA, LB⟩) hL e5 hf (fun h => h4 h.1)]
        exact snext_i_new2 d f l n LA LB A ca B cb k w hA hB eA eB hn hn' HV HC hL pos (hid_of HP) st st2 m e hst hst2 hm he (beq_t h1) (beq_f h2) (beq_f h4) _ rfl
  · have hf := hF false (decide_eq_false (fun h => h1 h.1))
    by_cases h4 : e = n
    · rw [nextI_none (s := ⟨d, f, l, n, LA, LB⟩) hL e5 hf h4]
      exact snext_i_none1 d f l n LA LB A ca B cb k w hA hB eA eB hn hn' HV HC hL pos (hid_of HP) st st2 m e hst hst2 hm he (beq_f h1) (beq_t h4)
    · rw [nextI_new (s := ⟨d, f, l, n, LA, LB⟩) hL e5 hf (fun h => h4 h.1)]
      exact snext_i_new1 d f l n LA LB A ca B cb k w hA hB eA eB hn hn' HV HC hL pos (hid_of HP) st st2 m e hst hst2 hm he (beq_f h1) (beq_f h4) _ rfl

theorem snext_i (d : ByteArray) (f : Bool) (l n : Int) (LA LB : List Rg) (A : Option Addr) (ca : Nat) (B : Option Addr) (cb : Nat) (k : Int) (w : World) (hA : RngAt w A LA.length LA) (hB : RngAt w B LB.length LB) (eA : A = none → ca = 0) (eB : B = none → cb = 0) (hn : LA.length ≤ 2000000) (hn' : LB.length ≤ 2000000) :
    Calls Try.prog 23 #[.agg #[.string d, .bool f, .int .i64 l, .int .i64 n, .slice A LA.length ca, .slice B LB.length cb], .int .i64 k] w (GotNext w (sendNext ⟨d, f, l, n, LA, LB⟩ k)) := by
  unfold sendNext
  cases hv : okS ⟨d, f, l, n, LA, LB⟩ with
  | false => rw [if_neg (by rintro ⟨e, _⟩; cases e)]; exact snext_i_bad d f l n LA LB A ca B cb k w hA hB eA eB hn hn' hv
  | true =>
    cases hc : decide (1 ≤ k ∧ k ≤ 12) with
    | false => rw [if_neg (by rintro ⟨_, e⟩; cases e)]; exact snext_i_size d f l n LA LB A ca B cb k w hA hB eA eB hn hn' hv hc
    | true =>
      rw [if_pos ⟨rfl, rfl⟩, ← next_eq (okS_iff.1 hv) (of_decide_eq_true hc).1]
      cases hL : LB with
      | nil => exact hL ▸ snext_i_fresh d f l n LA LB A ca B cb k w hA hB eA eB hn hn' hv hc hL
      | cons r T => exact hL ▸ snext_i_lost d f l n LA LB A ca B cb k w hA hB eA eB hn hn' hv hc r.lo r.hi T hL

end Go.Proofs.Ytmkmaeblnnfheaa
/- The program's added. -/
namespace Go.Proofs.Ytmkmaeblnnfheaa
open Go.RowKit
attribute [local irreducible] Go.wpQuiet

theorem add_step {L : List Rg} {k : Nat} {lo hi : Int} (h : k < L.length) (hc : (rth L k).hi + 1 < lo) : add (L.drop k) lo hi = [rth L k] ++ add (L.drop (k + 1)) lo hi := by
  rw [List.drop_eq_getElem_cons h, ← rth_eq h]
  show (if (rth L k).hi + 1 < lo then rth L k :: add (L.drop (k + 1)) lo hi else addMerge (rth L k :: L.drop (k + 1)) lo hi) = _
  rw [if_pos hc]
  rfl
theorem add_stop {L : List Rg} {k : Nat} {lo hi : Int} (h : L.length ≤ k ∨ ¬ (rth L k).hi + 1 < lo) : add (L.drop k) lo hi = addMerge (L.drop k) lo hi := by
  by_cases hk : k < L.length
  · rw [List.drop_eq_getElem_cons hk, ← rth_eq hk]
    show (if (rth L k).hi + 1 < lo then rth L k :: add (L.drop (k + 1)) lo hi else addMerge (rth L k :: L.drop (k + 1)) lo hi) = _
    rw [if_neg (by rcases h with h | h; omega; exact h)]
  · rw [List.drop_of_length_le (by omega)]
    rfl
theorem merge_step {L : List Rg} {k : Nat} {lo hi : Int} (h : k < L.length) (hc : (rth L k).lo ≤ hi + 1) : addMerge (L.drop k) lo hi = addMerge (L.drop (k + 1)) (min lo (rth L k).lo) (max hi (rth L k).hi) := by
  rw [List.drop_eq_getElem_cons h, ← rth_eq h]
  show (if (rth L k).lo ≤ hi + 1 then addMerge (L.drop (k + 1)) (min lo (rth L k).lo) (max hi (rth L k).hi) else ⟨lo, hi⟩ :: rth L k :: L.drop (k + 1)) = _
  rw [if_pos hc]
theorem merge_stop {L : List Rg} {k : Nat} {lo hi : Int} (h : L.length ≤ k ∨ ¬ (rth L k).lo ≤ hi + 1) : addMerge (L.drop k) lo hi = ⟨lo, hi⟩ :: L.drop k := by
  by_cases hk : k < L.length
  · rw [List.drop_eq_getElem_cons hk, ← rth_eq hk]
    show (if (rth L k).lo ≤ hi + 1 then addMerge (L.drop (k + 1)) (min lo (rth L k).lo) (max hi (rth L k).hi) else ⟨lo, hi⟩ :: rth L k :: L.drop (k + 1)) = _
    rw [if_neg (by rcases h with h | h; omega; exact h)]
  · rw [List.drop_of_length_le (by omega)]
    rfl
theorem rng_drop {w : World} {g off n k : Nat} {L : List Rg} (h : RngAt w (some ⟨g, off, none⟩) n L) (hk : k ≤ n) : RngAt w (some ⟨g, off + k * 2, none⟩) (n - k) (L.drop k) := by
  refine ⟨by rw [List.length_drop, h.1], fun hn => ?_⟩
  obtain ⟨b, o, e, hb, hc⟩ := h.2 (by omega)
  cases e
  refine ⟨g, off + k * 2, rfl, hb, fun i hi => ?_⟩
  obtain ⟨h0, h1⟩ := hc (k + i) (by omega)
  rw [rth_drop (by rw [h.1]; omega), show off + k * 2 + i * 2 = off + (k + i) * 2 from by omega]
  exact ⟨h0, h1⟩

set_option maxRecDepth 100000 in
set_option maxHeartbeats 4000000 in
theorem added_some (g off : Nat) (n c : Nat) (L : List Rg) (w : World) (lo hi : Int) (h : RngAt w (some ⟨g, off, none⟩) n L) (hcap : n ≤ c) (hn : n ≤ 100000) (hlo : -1000000 ≤ lo ∧ lo ≤ 1000000) (hhi : -1000000 ≤ hi ∧ hi ≤ 1000000)
    (hbd : ∀ r, r ∈ L → (-1000000 ≤ r.lo ∧ r.lo ≤ 1000000) ∧ -1000000 ≤ r.hi ∧ r.hi ≤ 1000000) :
    Calls Try.prog 48 #[.slice (some ⟨g, off, none⟩) n c, .int .i64 lo, .int .i64 hi] w (GotRng w (add L lo hi)) := by
  have hl := hid_of h.1
  have HBD := hid_of hbd
  obtain ⟨hlo0, hlo1⟩ := hlo
  obtain ⟨hhi0, hhi1⟩ := hhi
  clear hbd
  obtain ⟨T, hT⟩ : ∃ T, add L lo hi = T := ⟨_, rfl⟩
  have HT : Hid (T = [] ++ add (L.drop 0) lo hi) := by rw [List.drop_zero]; exact hT.symm
  rw [hT]
  clear hT
  go_enter Try.func48, Try.ntmps48
  go_wp2_with fail
  go_loopw [7, 8] (fun s i wr => ∃ (k : Nat) (A' : Option Addr) (c' m : Nat) (O : List Rg), i = .int .i64 (k : Nat) ∧ s = .slice A' m c' ∧ k ≤ n ∧ m ≤ k ∧ Hid (T = O ++ add (L.drop k) lo hi) ∧ RngIn wr w.heap.size wr.heap.size A' m c' O ∧ Below w.heap.size w wr) (fun _ i _ => n - (intOf i).toNat)
  case atStart => exact ⟨0, none, 0, 0, [], rfl, rfl, Nat.zero_le _, Nat.le_refl _, HT, RngIn.empty _ _ _ _, Below.refl _ _⟩
  case round =>
    clear HT
    obtain ⟨k, A', c', m, O, rfl, rfl, hk, hm, HT, hI, hb⟩ := hrel
    have hsr := hb.size
    by_cases hlt : k < n
    · obtain ⟨g', off', eg, hgl, hc⟩ := (h.below hb).2 (by omega)
      cases eg
      obtain ⟨c0, c1⟩ := hc k hlt
      obtain ⟨b1, b2⟩ := HBD.out _ (rth_mem (L := L) (i := k) (by rw [hl.out]; exact hlt))
      have has := fun x => add_step (L := L) (k := k) (lo := lo) (hi := hi) (by rw [hl.out]; exact hlt) x
      have hst := fun x => add_stop (L := L) (k := k) (lo := lo) (hi := hi) x
      obtain ⟨⟨rl, rh⟩, hx⟩ : ∃ x, x = rth L k := ⟨_, rfl⟩
      rw [← hx] at c0 c1 b1 b2 has hst
      dsimp only at c0 c1 b1 b2 has hst
      obtain ⟨b10, b11⟩ := b1
      obtain ⟨b20, b21⟩ := b2
      have HAS := hid_of has
      have HST := hid_of hst
      clear hc hx has hst
      by_cases t1 : rh + 1 < lo
      · have HT : Hid (T = (O ++ [⟨rl, rh⟩]) ++ add (L.drop (k + 1)) lo hi) := hid_of (by have := HT.out; rw [HAS.out t1] at this; rw [this, List.append_assoc])
        clear HAS HST
        go_wp2_with (at_builtin; refine wpList_snoc_rng _ rfl _ _ rfl ⟨rl, rh⟩ rfl (hI.alloc _) (by simp; omega) (by omega) (by simp) rfl (by simp) (by simp) ?_; intro A2 c2 w2 hI2 ht2; have hb2 : Below w.heap.size w w2 := below_touch hb (alloc_touch ht2) (Nat.le_refl _) hsr; clear ht2)
        go_roundw
        case rel => exact ⟨k + 1, A2, c2, m + 1, O ++ [⟨rl, rh⟩], by go_num, rfl, by omega, by omega, HT, hI2, hb2⟩
        case measure => simp [intOf]; omega
      · have HT2 : Hid (T = O ++ addMerge (L.drop k) lo hi) := hid_of (by have := HT.out; rw [HST.out (.inr t1)] at this; exact this)
        clear HAS HST
        go_wp2_with fail
        clear c0 c1 b10 b11 b20 b21 t1
        go_loopw [1, 2, 8] (fun x y i wr => ∃ (k : Nat) (l' h' : Int), x = .int .i64 l' ∧ y = .int .i64 h' ∧ i = .int .i64 (k : Nat) ∧ k ≤ n ∧ (-1000000 ≤ l' ∧ l' ≤ 1000000) ∧ (-1000000 ≤ h' ∧ h' ≤ 1000000) ∧ Hid (T = O ++ addMerge (L.drop k) l' h') ∧ RngIn wr w.heap.size wr.heap.size A' m c' O ∧ Below w.heap.size w wr) (fun _ _ i _ => n - (intOf i).toNat)
        case atStart => exact ⟨k, lo, hi, rfl, rfl, rfl, hk, ⟨hlo0, hlo1⟩, ⟨hhi0, hhi1⟩, HT2, hI, hb⟩
        case round =>
          clear HT2 hb hI HT
          obtain ⟨k, l', h', rfl, rfl, rfl, hk, ⟨hl0, hl1⟩, ⟨hh0, hh1⟩, HT, hI, hb⟩ := hrel
          have hsr := hb.size
          by_cases hlt : k < n
          · obtain ⟨g', off', eg, hgl, hc⟩ := (h.below hb).2 (by omega)
            cases eg
            obtain ⟨c0, c1⟩ := hc k hlt
            obtain ⟨b1, b2⟩ := HBD.out _ (rth_mem (L := L) (i := k) (by rw [hl.out]; exact hlt))
            have hms := fun x => merge_step (L := L) (k := k) (lo := l') (hi := h') (by rw [hl.out]; exact hlt) x
            have hst := fun x => merge_stop (L := L) (k := k) (lo := l') (hi := h') x
            have HD := hid_of (rng_drop (h.below hb) (show k ≤ n from by omega))
            obtain ⟨⟨rl, rh⟩, hx⟩ : ∃ x, x = rth L k := ⟨_, rfl⟩
            rw [← hx] at c0 c1 b1 b2 hms hst
            dsimp only at c0 c1 b1 b2 hms hst
            obtain ⟨b10, b11⟩ := b1
            obtain ⟨b20, b21⟩ := b2
            have HMS := hid_of hms
            have HST := hid_of hst
            clear hc hx hms hst
            by_cases t2 : rl ≤ h' + 1
            · obtain ⟨mv, hmv⟩ : ∃ v, (if rl < l' then rl else l') = v := ⟨_, rfl⟩
              obtain ⟨xv, hxv⟩ : ∃ v, (if h' < rh then rh else h') = v := ⟨_, rfl⟩
              have HMV : Hid (min l' rl = mv) := by unfold Hid; rw [← hmv]; split <;> omega
              have HXV : Hid (max h' rh = xv) := by unfold Hid; rw [← hxv]; split <;> omega
              have hmb : -1000000 ≤ mv ∧ mv ≤ 1000000 := by have := HMV.out; omega
              have hxb : -1000000 ≤ xv ∧ xv ≤ 1000000 := by have := HXV.out; omega
              have HT : Hid (T = O ++ addMerge (L.drop (k + 1)) mv xv) := hid_of (by have := HT.out; rw [HMS.out t2, HMV.out, HXV.out] at this; exact this)
              clear HMV HXV HMS HST
              go_wp2_with fail
              go_quiet (fail)
              go_wp2_with fail
              go_roundw
              case rel => exact ⟨k + 1, mv, xv, rfl, rfl, by go_num, by omega, hmb, hxb, HT, hI, below_drewN' hb _⟩
              case measure => simp [intOf]; omega
            · have HT : Hid (T = O ++ [⟨l', h'⟩] ++ L.drop k) := hid_of (by have := HT.out; rw [HST.out (.inr t2)] at this; rw [this]; simp)
              clear HMS HST
              go_wp2_with (first
                | (at_builtin; refine wpList_snoc_rng _ rfl _ _ rfl ⟨l', h'⟩ rfl (hI.alloc _) (by simp; omega) (by omega) (by simp) rfl (by simp) (by simp) ?_; intro A2 c2 w2 hI2 ht2; have hs2 := ht2.size; (try simp at hs2); have hb2 : Below w.heap.size w w2 := below_touch hb (alloc_touch ht2) (Nat.le_refl _) hsr; have HX := hid_of (rng_drop (h.below hb2) (show k ≤ n from by omega)); clear ht2)
                | (at_builtin; go_loud (refine wpList_tail_rng _ rfl _ _ rfl rfl hI2 (by omega) (by omega) (by omega) rfl HX.out (by intro e; first | (cases e; done) | (split at e <;> cases e)) (by omega) ?_; intro A3 c3 w3 hI3 ht3; have hb3 : Below w.heap.size w w3 := below_touch hb2 ht3 (Nat.le_refl _) (by omega); clear ht3)))
              go_ret
              have hl3 := hI3.1
              exact ⟨A3, c3, by rw [HT.out, hl3]; rfl, by rw [HT.out, hl3]; exact hI3, hb3⟩
          · obtain rfl : k = n := by omega
            have hst := merge_stop (L := L) (k := k) (lo := l') (hi := h') (.inl (by rw [hl.out]; exact Nat.le_refl _))
            have HT : Hid (T = O ++ [⟨l', h'⟩] ++ L.drop k) := hid_of (by have := HT.out; rw [hst] at this; rw [this]; simp)
            clear hst hlt
            have HD0 : Hid (L.drop k = []) := hid_of (List.drop_of_length_le (by rw [hl.out]; exact Nat.le_refl _))
            by_cases hck : c = k
            · go_wp2_with (first
                | (at_builtin; refine wpList_snoc_rng _ rfl _ _ rfl ⟨l', h'⟩ rfl (hI.alloc _) (by simp; omega) (by omega) (by simp) rfl (by simp) (by simp) ?_; intro A2 c2 w2 hI2 ht2; have hs2 := ht2.size; (try simp at hs2); have hb2 : Below w.heap.size w w2 := below_touch hb (alloc_touch ht2) (Nat.le_refl _) hsr; skip; clear ht2)
                | (at_builtin; go_loud (refine wpList_tail_rng _ rfl _ _ rfl rfl hI2 (by omega) (by omega) (by omega) rfl (show RngAt w2 _ 0 (L.drop k) from by rw [HD0.out]; exact RngAt.nil _ _) (by intro e; first | (cases e; done) | (split at e <;> cases e)) (by omega) ?_; intro A3 c3 w3 hI3 ht3; have hb3 : Below w.heap.size w w3 := below_touch hb2 ht3 (Nat.le_refl _) (by omega); clear ht3)))
              go_ret
              have hl3 := hI3.1
              exact ⟨A3, c3, by rw [HT.out, hl3]; rfl, by rw [HT.out, hl3]; exact hI3, hb3⟩
            · go_wp2_with (first
                | (at_builtin; refine wpList_snoc_rng _ rfl _ _ rfl ⟨l', h'⟩ rfl (hI.alloc _) (by simp; omega) (by omega) (by simp) rfl (by simp) (by simp) ?_; intro A2 c2 w2 hI2 ht2; have hs2 := ht2.size; (try simp at hs2); have hb2 : Below w.heap.size w w2 := below_touch hb (alloc_touch ht2) (Nat.le_refl _) hsr; skip; clear ht2)
                | (at_builtin; go_loud (refine wpList_tail_rng _ rfl _ _ rfl rfl hI2 (by omega) (by omega) (by omega) rfl (show RngAt w2 _ 0 (L.drop k) from by rw [HD0.out]; exact RngAt.nil _ _) (by intro e; first | (cases e; done) | (split at e <;> cases e)) (by omega) ?_; intro A3 c3 w3 hI3 ht3; have hb3 : Below w.heap.size w w3 := below_touch hb2 ht3 (Nat.le_refl _) (by omega); clear ht3)))
              go_ret
              have hl3 := hI3.1
              exact ⟨A3, c3, by rw [HT.out, hl3]; rfl, by rw [HT.out, hl3]; exact hI3, hb3⟩
    · have HT2 : Hid (T = O ++ addMerge (L.drop k) lo hi) := hid_of (by have := HT.out; rw [add_stop (.inl (by rw [hl.out]; omega))] at this; exact this)
      go_wp2_with fail
      clear hlt
      go_loopw [1, 2, 8] (fun x y i wr => ∃ (k : Nat) (l' h' : Int), x = .int .i64 l' ∧ y = .int .i64 h' ∧ i = .int .i64 (k : Nat) ∧ k ≤ n ∧ (-1000000 ≤ l' ∧ l' ≤ 1000000) ∧ (-1000000 ≤ h' ∧ h' ≤ 1000000) ∧ Hid (T = O ++ addMerge (L.drop k) l' h') ∧ RngIn wr w.heap.size wr.heap.size A' m c' O ∧ Below w.heap.size w wr) (fun _ _ i _ => n - (intOf i).toNat)
      case atStart => exact ⟨k, lo, hi, rfl, rfl, rfl, hk, ⟨hlo0, hlo1⟩, ⟨hhi0, hhi1⟩, HT2, hI, hb⟩
      case round =>
        clear HT2 hb hI HT
        obtain ⟨k, l', h', rfl, rfl, rfl, hk, ⟨hl0, hl1⟩, ⟨hh0, hh1⟩, HT, hI, hb⟩ := hrel
        have hsr := hb.size
        by_cases hlt : k < n
        · obtain ⟨g', off', eg, hgl, hc⟩ := (h.below hb).2 (by omega)
          cases eg
          obtain ⟨c0, c1⟩ := hc k hlt
          obtain ⟨b1, b2⟩ := HBD.out _ (rth_mem (L := L) (i := k) (by rw [hl.out]; exact hlt))
          have hms := fun x => merge_step (L := L) (k := k) (lo := l') (hi := h') (by rw [hl.out]; exact hlt) x
          have hst := fun x => merge_stop (L := L) (k := k) (lo := l') (hi := h') x
          have HD := hid_of (rng_drop (h.below hb) (show k ≤ n from by omega))
          obtain ⟨⟨rl, rh⟩, hx⟩ : ∃ x, x = rth L k := ⟨_, rfl⟩
          rw [← hx] at c0 c1 b1 b2 hms hst
          dsimp only at c0 c1 b1 b2 hms hst
          obtain ⟨b10, b11⟩ := b1
          obtain ⟨b20, b21⟩ := b2
          have HMS := hid_of hms
          have HST := hid_of hst
          clear hc hx hms hst
          by_cases t2 : rl ≤ h' + 1
          · obtain ⟨mv, hmv⟩ : ∃ v, (if rl < l' then rl else l') = v := ⟨_, rfl⟩
            obtain ⟨xv, hxv⟩ : ∃ v, (if h' < rh then rh else h') = v := ⟨_, rfl⟩
            have HMV : Hid (min l' rl = mv) := by unfold Hid; rw [← hmv]; split <;> omega
            have HXV : Hid (max h' rh = xv) := by unfold Hid; rw [← hxv]; split <;> omega
            have hmb : -1000000 ≤ mv ∧ mv ≤ 1000000 := by have := HMV.out; omega
            have hxb : -1000000 ≤ xv ∧ xv ≤ 1000000 := by have := HXV.out; omega
            have HT : Hid (T = O ++ addMerge (L.drop (k + 1)) mv xv) := hid_of (by have := HT.out; rw [HMS.out t2, HMV.out, HXV.out] at this; exact this)
            clear HMV HXV HMS HST
            go_wp2_with fail
            go_quiet (fail)
            go_wp2_with fail
            go_roundw
            case rel => exact ⟨k + 1, mv, xv, rfl, rfl, by go_num, by omega, hmb, hxb, HT, hI, below_drewN' hb _⟩
            case measure => simp [intOf]; omega
          · have HT : Hid (T = O ++ [⟨l', h'⟩] ++ L.drop k) := hid_of (by have := HT.out; rw [HST.out (.inr t2)] at this; rw [this]; simp)
            clear HMS HST
            go_wp2_with (first
              | (at_builtin; refine wpList_snoc_rng _ rfl _ _ rfl ⟨l', h'⟩ rfl (hI.alloc _) (by simp; omega) (by omega) (by simp) rfl (by simp) (by simp) ?_; intro A2 c2 w2 hI2 ht2; have hs2 := ht2.size; (try simp at hs2); have hb2 : Below w.heap.size w w2 := below_touch hb (alloc_touch ht2) (Nat.le_refl _) hsr; have HX := hid_of (rng_drop (h.below hb2) (show k ≤ n from by omega)); clear ht2)
              | (at_builtin; go_loud (refine wpList_tail_rng _ rfl _ _ rfl rfl hI2 (by omega) (by omega) (by omega) rfl HX.out (by intro e; first | (cases e; done) | (split at e <;> cases e)) (by omega) ?_; intro A3 c3 w3 hI3 ht3; have hb3 : Below w.heap.size w w3 := below_touch hb2 ht3 (Nat.le_refl _) (by omega); clear ht3)))
            go_ret
            have hl3 := hI3.1
            exact ⟨A3, c3, by rw [HT.out, hl3]; rfl, by rw [HT.out, hl3]; exact hI3, hb3⟩
        · obtain rfl : k = n := by omega
          have hst := merge_stop (L := L) (k := k) (lo := l') (hi := h') (.inl (by rw [hl.out]; exact Nat.le_refl _))
          have HT : Hid (T = O ++ [⟨l', h'⟩] ++ L.drop k) := hid_of (by have := HT.out; rw [hst] at this; rw [this]; simp)
          clear hst hlt
          have HD0 : Hid (L.drop k = []) := hid_of (List.drop_of_length_le (by rw [hl.out]; exact Nat.le_refl _))
          by_cases hck : c = k
          · go_wp2_with (first
              | (at_builtin; refine wpList_snoc_rng _ rfl _ _ rfl ⟨l', h'⟩ rfl (hI.alloc _) (by simp; omega) (by omega) (by simp) rfl (by simp) (by simp) ?_; intro A2 c2 w2 hI2 ht2; have hs2 := ht2.size; (try simp at hs2); have hb2 : Below w.heap.size w w2 := below_touch hb (alloc_touch ht2) (Nat.le_refl _) hsr; skip; clear ht2)
              | (at_builtin; go_loud (refine wpList_tail_rng _ rfl _ _ rfl rfl hI2 (by omega) (by omega) (by omega) rfl (show RngAt w2 _ 0 (L.drop k) from by rw [HD0.out]; exact RngAt.nil _ _) (by intro e; first | (cases e; done) | (split at e <;> cases e)) (by omega) ?_; intro A3 c3 w3 hI3 ht3; have hb3 : Below w.heap.size w w3 := below_touch hb2 ht3 (Nat.le_refl _) (by omega); clear ht3)))
            go_ret
            have hl3 := hI3.1
            exact ⟨A3, c3, by rw [HT.out, hl3]; rfl, by rw [HT.out, hl3]; exact hI3, hb3⟩
          · go_wp2_with (first
              | (at_builtin; refine wpList_snoc_rng _ rfl _ _ rfl ⟨l', h'⟩ rfl (hI.alloc _) (by simp; omega) (by omega) (by simp) rfl (by simp) (by simp) ?_; intro A2 c2 w2 hI2 ht2; have hs2 := ht2.size; (try simp at hs2); have hb2 : Below w.heap.size w w2 := below_touch hb (alloc_touch ht2) (Nat.le_refl _) hsr; skip; clear ht2)
              | (at_builtin; go_loud (refine wpList_tail_rng _ rfl _ _ rfl rfl hI2 (by omega) (by omega) (by omega) rfl (show RngAt w2 _ 0 (L.drop k) from by rw [HD0.out]; exact RngAt.nil _ _) (by intro e; first | (cases e; done) | (split at e <;> cases e)) (by omega) ?_; intro A3 c3 w3 hI3 ht3; have hb3 : Below w.heap.size w w3 := below_touch hb2 ht3 (Nat.le_refl _) (by omega); clear ht3)))
            go_ret
            have hl3 := hI3.1
            exact ⟨A3, c3, by rw [HT.out, hl3]; rfl, by rw [HT.out, hl3]; exact hI3, hb3⟩
theorem added_nil (w : World) (lo hi : Int) : Calls Try.prog 48 #[.slice none 0 0, .int .i64 lo, .int .i64 hi] w (GotRng w [⟨lo, hi⟩]) := by
  go_enter Try.func48, Try.ntmps48
  go_wp2_with fail
  go_loopw [7, 8] (fun s i wr => i = .int .i64 0 ∧ s = .slice none 0 0 ∧ Below w.heap.size w wr) (fun _ i _ => 0)
  case atStart => exact ⟨rfl, rfl, Below.refl _ _⟩
  case round =>
    obtain ⟨rfl, rfl, hb⟩ := hrel
    go_wp2_with fail
    go_loopw [1, 2, 8] (fun x y i wr => x = .int .i64 lo ∧ y = .int .i64 hi ∧ i = .int .i64 0 ∧ Below w.heap.size w wr) (fun _ _ i _ => 0)
    case atStart => exact ⟨rfl, rfl, rfl, hb⟩
    case round =>
      clear hb
      obtain ⟨rfl, rfl, rfl, hb⟩ := hrel
      have hsr := hb.size
      go_wp2_with (first
        | (at_builtin; refine wpList_snoc_rng _ rfl _ _ rfl ⟨lo, hi⟩ rfl ((RngIn.empty _ w.heap.size 0 none)) (by simp; omega) (by omega) (by simp) rfl (by simp) (by simp) ?_; intro A2 c2 w2 hI2 ht2; have hs2 := ht2.size; (try simp at hs2); have hb2 : Below w.heap.size w w2 := below_touch hb (alloc_touch ht2) (Nat.le_refl _) hsr; clear ht2)
        | (at_builtin; refine wpList_tail_rng _ rfl _ _ rfl rfl hI2 (by omega) (by omega) (by omega) rfl (RngAt.nil _ _) (by simp) (by omega) ?_; intro A3 c3 w3 hI3 ht3; have hb3 : Below w.heap.size w w3 := below_touch hb2 ht3 (Nat.le_refl _) (by omega); clear ht3))
      go_ret
      exact ⟨A3, c3, rfl, hI3, hb3⟩
theorem added_zero (x : Addr) (c : Nat) (w : World) (lo hi : Int) : Calls Try.prog 48 #[.slice (some x) 0 c, .int .i64 lo, .int .i64 hi] w (GotRng w [⟨lo, hi⟩]) := by
  go_enter Try.func48, Try.ntmps48
  go_wp2_with fail
  go_loopw [7, 8] (fun s i wr => i = .int .i64 0 ∧ s = .slice none 0 0 ∧ Below w.heap.size w wr) (fun _ i _ => 0)
  case atStart => exact ⟨rfl, rfl, Below.refl _ _⟩
  case round =>
    obtain ⟨rfl, rfl, hb⟩ := hrel
    go_wp2_with fail
    go_loopw [1, 2, 8] (fun x y i wr => x = .int .i64 lo ∧ y = .int .i64 hi ∧ i = .int .i64 0 ∧ Below w.heap.size w wr) (fun _ _ i _ => 0)
    case atStart => exact ⟨rfl, rfl, rfl, hb⟩
    case round =>
      clear hb
      obtain ⟨rfl, rfl, rfl, hb⟩ := hrel
      have hsr := hb.size
      go_wp2_with (first
        | (at_builtin; refine wpList_snoc_rng _ rfl _ _ rfl ⟨lo, hi⟩ rfl ((RngIn.empty _ w.heap.size 0 none)) (by simp; omega) (by omega) (by simp) rfl (by simp) (by simp) ?_; intro A2 c2 w2 hI2 ht2; have hs2 := ht2.size; (try simp at hs2); have hb2 : Below w.heap.size w w2 := below_touch hb (alloc_touch ht2) (Nat.le_refl _) hsr; clear ht2)
        | (at_builtin; go_loud (refine wpList_tail_rng _ rfl _ _ rfl rfl hI2 (by omega) (by omega) (by omega) rfl (RngAt.nil _ _) (by intro e; first | (cases e; done) | (split at e <;> cases e)) (by omega) ?_; intro A3 c3 w3 hI3 ht3; have hb3 : Below w.heap.size w w3 := below_touch hb2 ht3 (Nat.le_refl _) (by omega); clear ht3)))
      go_ret
      exact ⟨A3, c3, rfl, hI3, hb3⟩
theorem added_any (A : Option Addr) (n c : Nat) (L : List Rg) (w : World) (lo hi : Int) (h : RngAt w A n L) (hnone : A = none → c = 0) (hcap : n ≤ c) (hn : n ≤ 100000) (hlo : -1000000 ≤ lo ∧ lo ≤ 1000000) (hhi : -1000000 ≤ hi ∧ hi ≤ 1000000)
    (hbd : ∀ r, r ∈ L → (-1000000 ≤ r.lo ∧ r.lo ≤ 1000000) ∧ -1000000 ≤ r.hi ∧ r.hi ≤ 1000000) :
    Calls Try.prog 48 #[.slice A n c, .int .i64 lo, .int .i64 hi] w (GotRng w (add L lo hi)) := by
  rcases Nat.eq_zero_or_pos n with e | e
  · subst e
    obtain rfl : L = [] := List.eq_nil_of_length_eq_zero h.1
    rcases A with _ | x
    · obtain rfl := hnone rfl
      exact added_nil w lo hi
    · exact added_zero x c w lo hi
  · obtain ⟨g, off, rfl, _, _⟩ := h.2 e
    exact added_some g off n c L w lo hi h hcap hn hlo hhi hbd
theorem added_v {L M : List Rg} {lo hi : Int} (hx : add L lo hi = M) (A : Option Addr) (c : Nat) (w : World) (h : RngAt w A L.length L) (hn : L.length ≤ 100000) (hlo : -1000000 ≤ lo ∧ lo ≤ 1000000) (hhi : -1000000 ≤ hi ∧ hi ≤ 1000000)
    (hbd : ∀ r, r ∈ L → (-1000000 ≤ r.lo ∧ r.lo ≤ 1000000) ∧ -1000000 ≤ r.hi ∧ r.hi ≤ 1000000) (hnone : A = none → c = 0) (hcap : L.length ≤ c) :
    Calls Try.prog 48 #[.slice A L.length c, .int .i64 lo, .int .i64 hi] w (GotRng w M) := hx ▸ added_any A L.length c L w lo hi h hnone hcap hn hlo hhi hbd

end Go.Proofs.Ytmkmaeblnnfheaa
/- The program's SendAck. -/
namespace Go.Proofs.Ytmkmaeblnnfheaa
open Go.RowKit
attribute [local irreducible] Go.wpQuiet

set_option linter.unusedVariables false in
set_option maxRecDepth 100000 in
set_option maxHeartbeats 4000000 in
theorem sack_i_bad (d : ByteArray) (f : Bool) (l n : Int) (LA LB : List Rg) (A : Option Addr) (ca : Nat) (B : Option Addr) (cb : Nat) (o : Int) (dp : ByteArray) (fp : Bool) (w : World) (hA : RngAt w A LA.length LA) (hB : RngAt w B LB.length LB) (eA : A = none → ca = 0) (eB : B = none → cb = 0) (hn : LA.length ≤ 2000000) (hn' : LB.length ≤ 2000000) (hdp : dp.size ≤ 2000000) (HV : Hid (sentOk ⟨d, f, l, n, LA, LB⟩ ⟨o, dp, fp⟩ = false)) :
    Calls Try.prog 14 #[.agg #[.string d, .bool f, .int .i64 l, .int .i64 n, .slice A LA.length ca, .slice B LB.length cb], .agg #[.int .i64 o, .string dp, .bool fp]] w (GotSb w (sd0, false)) := by
  have z := ((Own6.new (d := d) (f := f) (l := l) (n := n) (A := A) (na := LA.length) (ca := ca) (B := B) (nb := LB.length) (cb := cb) w).alloc (.cells #[.int .i64 o, .string dp, .bool fp] 27)).alloc (.cells #[.string (⟨#[]⟩ : ByteArray), .bool false, .int .i64 0, .int .i64 0, .slice none 0 0, .slice none 0 0] 25)
  have q := (Own3.new (w.alloc (.cells #[.string d, .bool f, .int .i64 l, .int .i64 n, .slice A LA.length ca, .slice B LB.length cb] 25)) o dp fp).alloc (.cells #[.string (⟨#[]⟩ : ByteArray), .bool false, .int .i64 0, .int .i64 0, .slice none 0 0, .slice none 0 0] 25)
  have r := Own6.new (d := (⟨#[]⟩ : ByteArray)) (f := false) (l := 0) (n := 0) (A := none) (na := 0) (ca := 0) (B := none) (nb := 0) (cb := 0) ((w.alloc (.cells #[.string d, .bool f, .int .i64 l, .int .i64 n, .slice A LA.length ca, .slice B LB.length cb] 25)).alloc (.cells #[.int .i64 o, .string dp, .bool fp] 27))
  rw [show (w.alloc (.cells #[.string d, .bool f, .int .i64 l, .int .i64 n, .slice A LA.length ca, .slice B LB.length cb] 25)).heap.size = w.heap.size + 1 from by simp] at q
  rw [show ((w.alloc (.cells #[.string d, .bool f, .int .i64 l, .int .i64 n, .slice A LA.length ca, .slice B LB.length cb] 25)).alloc (.cells #[.int .i64 o, .string dp, .bool fp] 27)).heap.size = w.heap.size + 1 + 1 from by simp] at r
  have hW0 : Below w.heap.size w _ := (((Below.refl _ w).alloc (Nat.le_refl _) (.cells #[.string d, .bool f, .int .i64 l, .int .i64 n, .slice A LA.length ca, .slice B LB.length cb] 25)).alloc (by simp) (.cells #[.int .i64 o, .string dp, .bool fp] 27)).alloc (by simp; omega) (.cells #[.string (⟨#[]⟩ : ByteArray), .bool false, .int .i64 0, .int .i64 0, .slice none 0 0, .slice none 0 0] 25)
  have hsz : (((w.alloc (.cells #[.string d, .bool f, .int .i64 l, .int .i64 n, .slice A LA.length ca, .slice B LB.length cb] 25)).alloc (.cells #[.int .i64 o, .string dp, .bool fp] 27)).alloc (.cells #[.string (⟨#[]⟩ : ByteArray), .bool false, .int .i64 0, .int .i64 0, .slice none 0 0, .slice none 0 0] 25)).heap.size = w.heap.size + 1 + 1 + 1 := by simp
  go_enter Try.func14, Try.ntmps14
  have HZ := hid_of z
  have HQ := hid_of q
  have HR := hid_of r
  obtain ⟨⟨z0, z1, z2, z3, z4, z5⟩, zf⟩ := HZ.out
  obtain ⟨⟨q0, q1, q2⟩, qf⟩ := HQ.out
  clear z q r
  go_wp2_with (go_at_call 28; (with_reducible refine (psent_i HV.out _ (hA.below hW0) (hB.below hW0) hn hn' hdp).mono ?_); rintro e w1 ⟨rfl, hb1⟩; have HZ1 := hid_of (HZ.out.under hb1 (by omega)); have HQ1 := hid_of (HQ.out.under hb1 (by omega)); have HR1 := hid_of (HR.out.under hb1 (by omega)); have hw1 := hW0.trans (hb1.mono hW0.size); have hs1 : w.heap.size + 1 + 1 + 1 ≤ w1.heap.size := (by have := hb1.size; omega); clear z0 z1 z2 z3 z4 z5 zf q0 q1 q2 qf hb1; obtain ⟨⟨r0, r1, r2, r3, r4, r5⟩, rf⟩ := HR1.out)
  try simp only [Exit.inBlock, Exit.then]
  refine bodyPost_ret (results_sb rfl rfl rfl (HR1.out.setAll ⟨#[]⟩ false 0 0 none 0 0 none 0 0)) rfl ?_
  refine ⟨⟨_, rfl, got_zero rfl⟩, ?_⟩
  repeat refine Below.setCell ?_ (by dsimp only; omega) _
  exact hw1

set_option linter.unusedVariables false in
set_option maxRecDepth 100000 in
set_option maxHeartbeats 4000000 in
theorem sack_i_ok (d : ByteArray) (f : Bool) (l n : Int) (LA LB : List Rg) (A : Option Addr) (ca : Nat) (B : Option Addr) (cb : Nat) (o : Int) (dp : ByteArray) (fp : Bool) (w : World) (hA : RngAt w A LA.length LA) (hB : RngAt w B LB.length LB) (eA : A = none → ca = 0) (eB : B = none → cb = 0) (hn : LA.length ≤ 2000000) (hn' : LB.length ≤ 2000000) (hdp : dp.size ≤ 2000000) (hca : LA.length ≤ ca) (HV : Hid (sentOk ⟨d, f, l, n, LA, LB⟩ ⟨o, dp, fp⟩ = true)) (d1 : ByteArray) (f1 : Bool) (l1 n1 : Int) (LA1 LB1 : List Rg) (HX : Hid (ack ⟨d, f, l, n, LA, LB⟩ ⟨o, dp, fp⟩ = ⟨d1, f1, l1, n1, LA1, LB1⟩)) :
    Calls Try.prog 14 #[.agg #[.string d, .bool f, .int .i64 l, .int .i64 n, .slice A LA.length ca, .slice B LB.length cb], .agg #[.int .i64 o, .string dp, .bool fp]] w (GotSb w (⟨d1, f1, l1, n1, LA1, LB1⟩, true)) := by
  have hsv := hid_of (sentOk_iff.1 HV.out).1
  have hst := hid_of (sentOk_iff.1 HV.out).2
  obtain ⟨ls, hls⟩ : ∃ x, Pt.last ⟨o, dp, fp⟩ = x := ⟨_, rfl⟩
  have HLS := hid_of hls
  obtain ⟨⟨h1, h2⟩, h3, h4, h5⟩ := hst.out.bd hsv.out
  obtain ⟨_, _, _, h6, h7⟩ := hsv.out.bd
  rw [hls] at h4 h5
  dsimp only at h1 h2 h3 h4 h6 h7
  have HE : Hid (d = d1 ∧ f = f1 ∧ l = l1 ∧ n = n1 ∧ add LA o ls = LA1 ∧ remove LB o ls = LB1) := by
    have := HX.out
    unfold ack at this
    dsimp only at this
    rw [hls] at this
    cases this
    exact ⟨rfl, rfl, rfl, rfl, rfl, rfl⟩
  clear hls HX
  have z := ((Own6.new (d := d) (f := f) (l := l) (n := n) (A := A) (na := LA.length) (ca := ca) (B := B) (nb := LB.length) (cb := cb) w).alloc (.cells #[.int .i64 o, .string dp, .bool fp] 27)).alloc (.cells #[.string (⟨#[]⟩ : ByteArray), .bool false, .int .i64 0, .int .i64 0, .slice none 0 0, .slice none 0 0] 25)
  have q := (Own3.new (w.alloc (.cells #[.string d, .bool f, .int .i64 l, .int .i64 n, .slice A LA.length ca, .slice B LB.length cb] 25)) o dp fp).alloc (.cells #[.string (⟨#[]⟩ : ByteArray), .bool false, .int .i64 0, .int .i64 0, .slice none 0 0, .slice none 0 0] 25)
  have r := Own6.new (d := (⟨#[]⟩ : ByteArray)) (f := false) (l := 0) (n := 0) (A := none) (na := 0) (ca := 0) (B := none) (nb := 0) (cb := 0) ((w.alloc (.cells #[.string d, .bool f, .int .i64 l, .int .i64 n, .slice A LA.length ca, .slice B LB.length cb] 25)).alloc (.cells #[.int .i64 o, .string dp, .bool fp] 27))
  rw [show (w.alloc (.cells #[.string d, .bool f, .int .i64 l, .int .i64 n, .slice A LA.length ca, .slice B LB.length cb] 25)).heap.size = w.heap.size + 1 from by simp] at q
  rw [show ((w.alloc (.cells #[.string d, .bool f, .int .i64 l, .int .i64 n, .slice A LA.length ca, .slice B LB.length cb] 25)).alloc (.cells #[.int .i64 o, .string dp, .bool fp] 27)).heap.size = w.heap.size + 1 + 1 from by simp] at r
  have hW0 : Below w.heap.size w _ := (((Below.refl _ w).alloc (Nat.le_refl _) (.cells #[.string d, .bool f, .int .i64 l, .int .i64 n, .slice A LA.length ca, .slice B LB.length cb] 25)).alloc (by simp) (.cells #[.int .i64 o, .string dp, .bool fp] 27)).alloc (by simp; omega) (.cells #[.string (⟨#[]⟩ : ByteArray), .bool false, .int .i64 0, .int .i64 0, .slice none 0 0, .slice none 0 0] 25)
  have hsz : (((w.alloc (.cells #[.string d, .bool f, .int .i64 l, .int .i64 n, .slice A LA.length ca, .slice B LB.length cb] 25)).alloc (.cells #[.int .i64 o, .string dp, .bool fp] 27)).alloc (.cells #[.string (⟨#[]⟩ : ByteArray), .bool false, .int .i64 0, .int .i64 0, .slice none 0 0, .slice none 0 0] 25)).heap.size = w.heap.size + 1 + 1 + 1 := by simp
  go_enter Try.func14, Try.ntmps14
  have HZ := hid_of z
  have HQ := hid_of q
  have HR := hid_of r
  obtain ⟨⟨z0, z1, z2, z3, z4, z5⟩, zf⟩ := HZ.out
  obtain ⟨⟨q0, q1, q2⟩, qf⟩ := HQ.out
  clear z q r
  go_wp2_with (first
    | (go_at_call 28; (with_reducible refine (psent_i HV.out _ (hA.below hW0) (hB.below hW0) hn hn' hdp).mono ?_); rintro e w1 ⟨rfl, hb1⟩; have HZ1 := hid_of (HZ.out.under hb1 (by omega)); have HQ1 := hid_of (HQ.out.under hb1 (by omega)); have HR1 := hid_of (HR.out.under hb1 (by omega)); have hw1 := hW0.trans (hb1.mono hW0.size); have hs1 : w.heap.size + 1 + 1 + 1 ≤ w1.heap.size := (by have := hb1.size; omega); clear z0 z1 z2 z3 z4 z5 zf q0 q1 q2 qf hb1; obtain ⟨⟨z0, z1, z2, z3, z4, z5⟩, zf⟩ := HZ1.out)
    | (go_at_call 47; (with_reducible refine (copy_i d f l n LA LB A ca B cb _ (hA.below hw1) (hB.below hw1) eA eB (by omega) (by omega)).mono ?_); rintro e w2 ⟨⟨_, rfl, A1, c1, B1, c2, rfl, hI1, hJ1, hap⟩, hb2⟩; have HZ2 := hid_of (HZ1.out.under hb2 (by omega)); have HQ2 := hid_of (HQ1.out.under hb2 (by omega)); have HR2 := hid_of (HR1.out.under hb2 (by omega)); have hw2 := hw1.trans (hb2.mono hw1.size); have hs2 := hb2.size; clear z0 z1 z2 z3 z4 z5 zf hb2 hI1 hJ1 hap))
  generalize hW8 : World.alloc w2 _ = W8
  have HZ8 : Hid (Own6 W8 w.heap.size d f l n A LA.length ca B LB.length cb) := by rw [← hW8]; exact hid_of (HZ2.out.alloc _)
  have HQ8 : Hid (Own3 W8 (w.heap.size + 1) o dp fp) := by rw [← hW8]; exact hid_of (HQ2.out.alloc _)
  have HR8 : Hid (Own6 W8 (w.heap.size + 1 + 1) (⟨#[]⟩ : ByteArray) false 0 0 none 0 0 none 0 0) := by rw [← hW8]; exact hid_of (HR2.out.alloc _)
  have HO8 : Hid (Own6 W8 w2.heap.size d f l n A1 LA.length c1 B1 LB.length c2) := by rw [← hW8]; exact hid_of (Own6.new w2)
  have hw8 : Below w.heap.size w W8 := by rw [← hW8]; exact ba hw2 _
  have hs8 : w2.heap.size < W8.heap.size := by rw [← hW8]; simp
  clear hW8 HZ HQ HR HZ1 HQ1 HR1 HZ2 HQ2 HR2 hw1 hw2
  have u4 := fun y : Up W8 => y.cell HZ8.out.1.2.2.2.2.1
  have v0 := fun y : Up W8 => y.cell HQ8.out.1.1
  have v1 := fun y : Up W8 => y.cell HQ8.out.1.2.1
  have v2 := fun y : Up W8 => y.cell HQ8.out.1.2.2
  refine wp_region_up_tail 6 (by kernel_rfl) (by kernel_rfl) ?_
  simp only [List.take_succ_cons, List.take_zero, List.drop_succ_cons, List.drop_zero]
  repeat (quiet_step ((go_at_call 49; with_reducible exact up_box fun w' => last_v_j HLS.out w' ⟨by omega, by omega⟩ (by omega))))
  refine wpQuiet_nil ?_
  intro w9 hb9
  clear u4 v0 v1 v2
  have hs9 := hb9.size
  have HZ9 := hid_of (HZ8.out.under hb9 (by omega))
  have HQ9 := hid_of (HQ8.out.under hb9 (by omega))
  have HR9 := hid_of (HR8.out.under hb9 (by omega))
  have HO9 := hid_of (HO8.out.under hb9 (by omega))
  have hw9 := hw8.trans (hb9.mono hw8.size)
  clear HZ8 HQ8 HR8 HO8 hw8 hb9
  go_wp2_with (go_at_call 48; (with_reducible refine (added_v rfl A ca _ (hA.below hw9) (by omega) ⟨by omega, by omega⟩ ⟨by omega, by omega⟩ (LInv.of hsv.out.a).wide eA hca).mono ?_); rintro e' w10 ⟨A2, c3, rfl, hI10, hb10⟩; have hs10 := hb10.size; have HZ10 := hid_of (HZ9.out.under hb10 (by omega)); have HQ10 := hid_of (HQ9.out.under hb10 (by omega)); have HR10 := hid_of (HR9.out.under hb10 (by omega)); have HO10 := hid_of (HO9.out.under hb10 (by omega)); have hw10 := hw9.trans (hb10.mono hw9.size); have o4 := HO10.out.1.2.2.2.2.1; have of := HO10.out.2)
  generalize hW12 : World.setCell w10 _ _ = W12
  have HZ12 : Hid (Own6 W12 w.heap.size d f l n A LA.length ca B LB.length cb) := by rw [← hW12]; exact hid_of (HZ10.out.other (by dsimp only; omega) _)
  have HQ12 : Hid (Own3 W12 (w.heap.size + 1) o dp fp) := by rw [← hW12]; exact hid_of (HQ10.out.other (by dsimp only; omega) _)
  have HR12 : Hid (Own6 W12 (w.heap.size + 1 + 1) (⟨#[]⟩ : ByteArray) false 0 0 none 0 0 none 0 0) := by rw [← hW12]; exact hid_of (HR10.out.other (by dsimp only; omega) _)
  have HO12 : Hid (Own6 W12 w2.heap.size d f l n A2 (add LA o ls).length c3 B1 LB.length c2) := by rw [← hW12]; exact hid_of (HO10.out.set4 _ _ _)
  have hw12 : Below w.heap.size w W12 := by rw [← hW12]; exact hw10.setCell (by dsimp only; omega) _
  have hs12 : w10.heap.size ≤ W12.heap.size := by rw [← hW12]; simp [World.setCell]
  have hI12 : RngIn W12 w9.heap.size w10.heap.size A2 (add LA o ls).length c3 (add LA o ls) := by rw [← hW12]; exact hI10.setLow (by dsimp only; omega) _
  clear hW12 HZ9 HQ9 HR9 HO9 HZ10 HQ10 HR10 HO10 hw9 hw10 o4 of hb10 hI10
  go_wp2_with fail
  have u4 := fun y : Up W12 => y.cell HZ12.out.1.2.2.2.2.2
  have v0 := fun y : Up W12 => y.cell HQ12.out.1.1
  have v1 := fun y : Up W12 => y.cell HQ12.out.1.2.1
  have v2 := fun y : Up W12 => y.cell HQ12.out.1.2.2
  refine wp_region_up_tail 6 (by kernel_rfl) (by kernel_rfl) ?_
  simp only [List.take_succ_cons, List.take_zero, List.drop_succ_cons, List.drop_zero]
  repeat (quiet_step ((go_at_call 49; with_reducible exact up_box fun w' => last_v_j HLS.out w' ⟨by omega, by omega⟩ (by omega))))
  refine wpQuiet_nil ?_
  intro w13 hb13
  clear u4 v0 v1 v2
  have hs13 := hb13.size
  have HZ13 := hid_of (HZ12.out.under hb13 (by omega))
  have HQ13 := hid_of (HQ12.out.under hb13 (by omega))
  have HR13 := hid_of (HR12.out.under hb13 (by omega))
  have HO13 := hid_of (HO12.out.under hb13 (by omega))
  have hw13 := hw12.trans (hb13.mono hw12.size)
  have hI13 := hI12.below hb13
  clear HZ12 HQ12 HR12 HO12 hw12 hb13 hI12
  go_wp2_with (go_at_call 50; (with_reducible refine (removed_any B LB.length cb LB _ o ls (hB.below hw13) (by omega) ⟨by omega, by omega⟩ ⟨by omega, by omega⟩).mono ?_); rintro e' w14 ⟨B2, c4, rfl, hJ14, hb14⟩; have hs14 := hb14.size; have HR14 := hid_of (HR13.out.under hb14 (by omega)); have HO14 := hid_of (HO13.out.under hb14 (by omega)); have hw14 := hw13.trans (hb14.mono hw13.size); have hI14 := hI13.below hb14; obtain ⟨⟨o0, o1, o2, o3, o4, o5⟩, of⟩ := HO14.out; obtain ⟨⟨r0, r1, r2, r3, r4, r5⟩, rf⟩ := HR14.out; have ne1 : ¬ (w2.heap.size = w.heap.size + 1 + 1) := (by omega); have ne2 : ¬ (w.heap.size + 1 + 1 = w2.heap.size) := (by omega))
  try simp only [Exit.inBlock, Exit.then]
  obtain ⟨rfl, rfl, rfl, rfl, rfl, rfl⟩ := HE.out
  refine bodyPost_ret (results_sb rfl rfl rfl ((HR14.out.other (by dsimp only; omega) _).setAll d f l n A2 (add LA o ls).length c3 B2 (remove LB o ls).length c4)) rfl ?_
  refine ⟨⟨_, rfl, A2, c3, B2, c4, rfl, ?_, ?_, apart_of hI14 hJ14 (.inl (by omega))⟩, ?_⟩
  · refine RngIn.mono (B := w9.heap.size) (S := w10.heap.size) ?_ (by omega) (by simp [World.setCell]; omega)
    repeat refine RngIn.setLow ?_ (by dsimp only; omega) _
    exact hI14
  · refine RngIn.mono (B := w13.heap.size) (S := w14.heap.size) ?_ (by omega) (by simp [World.setCell])
    repeat refine RngIn.setLow ?_ (by dsimp only; omega) _
    exact hJ14
  · repeat refine Below.setCell ?_ (by dsimp only; omega) _
    exact hw14

theorem sack_i (d : ByteArray) (f : Bool) (l n : Int) (LA LB : List Rg) (A : Option Addr) (ca : Nat) (B : Option Addr) (cb : Nat) (o : Int) (dp : ByteArray) (fp : Bool) (w : World) (hA : RngAt w A LA.length LA) (hB : RngAt w B LB.length LB) (eA : A = none → ca = 0) (eB : B = none → cb = 0) (hn : LA.length ≤ 2000000) (hn' : LB.length ≤ 2000000) (hdp : dp.size ≤ 2000000) (hca : LA.length ≤ ca) :
    Calls Try.prog 14 #[.agg #[.string d, .bool f, .int .i64 l, .int .i64 n, .slice A LA.length ca, .slice B LB.length cb], .agg #[.int .i64 o, .string dp, .bool fp]] w (GotSb w (sendAck ⟨d, f, l, n, LA, LB⟩ ⟨o, dp, fp⟩)) := by
  unfold sendAck
  cases hv : sentOk ⟨d, f, l, n, LA, LB⟩ ⟨o, dp, fp⟩ with
  | false => rw [if_neg (by decide)]; exact sack_i_bad d f l n LA LB A ca B cb o dp fp w hA hB eA eB hn hn' hdp hv
  | true => rw [if_pos rfl]; exact sack_i_ok d f l n LA LB A ca B cb o dp fp w hA hB eA eB hn hn' hdp hca hv _ _ _ _ _ _ (hid_of rfl)

end Go.Proofs.Ytmkmaeblnnfheaa
/- The program's SendLoss. -/
namespace Go.Proofs.Ytmkmaeblnnfheaa
open Go.RowKit
attribute [local irreducible] Go.wpQuiet

set_option linter.unusedVariables false in
set_option maxRecDepth 100000 in
set_option maxHeartbeats 4000000 in
theorem sloss_i_bad (d : ByteArray) (f : Bool) (l n : Int) (LA LB : List Rg) (A : Option Addr) (ca : Nat) (B : Option Addr) (cb : Nat) (o : Int) (dp : ByteArray) (fp : Bool) (w : World) (hA : RngAt w A LA.length LA) (hB : RngAt w B LB.length LB) (eA : A = none → ca = 0) (eB : B = none → cb = 0) (hn : LA.length ≤ 2000000) (hn' : LB.length ≤ 2000000) (hdp : dp.size ≤ 2000000) (HV : Hid (sentOk ⟨d, f, l, n, LA, LB⟩ ⟨o, dp, fp⟩ = false)) :
    Calls Try.prog 20 #[.agg #[.string d, .bool f, .int .i64 l, .int .i64 n, .slice A LA.length ca, .slice B LB.length cb], .agg #[.int .i64 o, .string dp, .bool fp]] w (GotSb w (sd0, false)) := by
  have z := ((Own6.new (d := d) (f := f) (l := l) (n := n) (A := A) (na := LA.length) (ca := ca) (B := B) (nb := LB.length) (cb := cb) w).alloc (.cells #[.int .i64 o, .string dp, .bool fp] 27)).alloc (.cells #[.string (⟨#[]⟩ : ByteArray), .bool false, .int .i64 0, .int .i64 0, .slice none 0 0, .slice none 0 0] 25)
  have q := (Own3.new (w.alloc (.cells #[.string d, .bool f, .int .i64 l, .int .i64 n, .slice A LA.length ca, .slice B LB.length cb] 25)) o dp fp).alloc (.cells #[.string (⟨#[]⟩ : ByteArray), .bool false, .int .i64 0, .int .i64 0, .slice none 0 0, .slice none 0 0] 25)
  have r := Own6.new (d := (⟨#[]⟩ : ByteArray)) (f := false) (l := 0) (n := 0) (A := none) (na := 0) (ca := 0) (B := none) (nb := 0) (cb := 0) ((w.alloc (.cells #[.string d, .bool f, .int .i64 l, .int .i64 n, .slice A LA.length ca, .slice B LB.length cb] 25)).alloc (.cells #[.int .i64 o, .string dp, .bool fp] 27))
  rw [show (w.alloc (.cells #[.string d, .bool f, .int .i64 l, .int .i64 n, .slice A LA.length ca, .slice B LB.length cb] 25)).heap.size = w.heap.size + 1 from by simp] at q
  rw [show ((w.alloc (.cells #[.string d, .bool f, .int .i64 l, .int .i64 n, .slice A LA.length ca, .slice B LB.length cb] 25)).alloc (.cells #[.int .i64 o, .string dp, .bool fp] 27)).heap.size = w.heap.size + 1 + 1 from by simp] at r
  have hW0 : Below w.heap.size w _ := (((Below.refl _ w).alloc (Nat.le_refl _) (.cells #[.string d, .bool f, .int .i64 l, .int .i64 n, .slice A LA.length ca, .slice B LB.length cb] 25)).alloc (by simp) (.cells #[.int .i64 o, .string dp, .bool fp] 27)).alloc (by simp; omega) (.cells #[.string (⟨#[]⟩ : ByteArray), .bool false, .int .i64 0, .int .i64 0, .slice none 0 0, .slice none 0 0] 25)
  have hsz : (((w.alloc (.cells #[.string d, .bool f, .int .i64 l, .int .i64 n, .slice A LA.length ca, .slice B LB.length cb] 25)).alloc (.cells #[.int .i64 o, .string dp, .bool fp] 27)).alloc (.cells #[.string (⟨#[]⟩ : ByteArray), .bool false, .int .i64 0, .int .i64 0, .slice none 0 0, .slice none 0 0] 25)).heap.size = w.heap.size + 1 + 1 + 1 := by simp
  go_enter Try.func20, Try.ntmps20
  have HZ := hid_of z
  have HQ := hid_of q
  have HR := hid_of r
  obtain ⟨⟨z0, z1, z2, z3, z4, z5⟩, zf⟩ := HZ.out
  obtain ⟨⟨q0, q1, q2⟩, qf⟩ := HQ.out
  clear z q r
  go_wp2_with (go_at_call 28; (with_reducible refine (psent_i HV.out _ (hA.below hW0) (hB.below hW0) hn hn' hdp).mono ?_); rintro e w1 ⟨rfl, hb1⟩; have HZ1 := hid_of (HZ.out.under hb1 (by omega)); have HQ1 := hid_of (HQ.out.under hb1 (by omega)); have HR1 := hid_of (HR.out.under hb1 (by omega)); have hw1 := hW0.trans (hb1.mono hW0.size); have hs1 : w.heap.size + 1 + 1 + 1 ≤ w1.heap.size := (by have := hb1.size; omega); clear z0 z1 z2 z3 z4 z5 zf q0 q1 q2 qf hb1; obtain ⟨⟨r0, r1, r2, r3, r4, r5⟩, rf⟩ := HR1.out)
  try simp only [Exit.inBlock, Exit.then]
  refine bodyPost_ret (results_sb rfl rfl rfl (HR1.out.setAll ⟨#[]⟩ false 0 0 none 0 0 none 0 0)) rfl ?_
  refine ⟨⟨_, rfl, got_zero rfl⟩, ?_⟩
  repeat refine Below.setCell ?_ (by dsimp only; omega) _
  exact hw1

theorem has_v' {b : Bool} {L : List Rg} {q : Int} (hb : memB L q = b) {A : Option Addr} {c : Nat} (w : World) (h : RngAt w A L.length L) (hn : L.length ≤ 2000000) :
    Calls Try.prog 54 #[.slice A L.length c, .int .i64 q] w fun e w' => e = .returned (.bool b) ∧ Below w.heap.size w w' := hb ▸ has_any A L.length c L w q h hn

set_option linter.unusedVariables false in
set_option maxRecDepth 100000 in
set_option maxHeartbeats 4000000 in
theorem sloss_i_ok (d : ByteArray) (f : Bool) (l n : Int) (LA LB : List Rg) (A : Option Addr) (ca : Nat) (B : Option Addr) (cb : Nat) (o : Int) (dp : ByteArray) (fp : Bool) (w : World) (hA : RngAt w A LA.length LA) (hB : RngAt w B LB.length LB) (eA : A = none → ca = 0) (eB : B = none → cb = 0) (hn : LA.length ≤ 2000000) (hn' : LB.length ≤ 2000000) (hdp : dp.size ≤ 2000000) (HV : Hid (sentOk ⟨d, f, l, n, LA, LB⟩ ⟨o, dp, fp⟩ = true)) (d1 : ByteArray) (f1 : Bool) (l1 n1 : Int) (LA1 LB1 : List Rg) (HX : Hid (loss ⟨d, f, l, n, LA, LB⟩ ⟨o, dp, fp⟩ = ⟨d1, f1, l1, n1, LA1, LB1⟩)) :
    Calls Try.prog 20 #[.agg #[.string d, .bool f, .int .i64 l, .int .i64 n, .slice A LA.length ca, .slice B LB.length cb], .agg #[.int .i64 o, .string dp, .bool fp]] w (GotSb w (⟨d1, f1, l1, n1, LA1, LB1⟩, true)) := by
  have hsv := hid_of (sentOk_iff.1 HV.out).1
  have hst := hid_of (sentOk_iff.1 HV.out).2
  obtain ⟨ls, hls⟩ : ∃ x, Pt.last ⟨o, dp, fp⟩ = x := ⟨_, rfl⟩
  have HLS := hid_of hls
  obtain ⟨⟨h1, h2⟩, h3, h4, h5⟩ := hst.out.bd hsv.out
  obtain ⟨_, _, _, h6, h7⟩ := hsv.out.bd
  rw [hls] at h4 h5
  dsimp only at h1 h2 h3 h4 h6 h7
  have HI0 : Hid (LInv LB) := LInv.of hsv.out.b
  obtain ⟨T, hT⟩ : ∃ T, lose LA (ls + 1 - o).toNat o LB = T := ⟨_, rfl⟩
  have HE : Hid (d = d1 ∧ f = f1 ∧ l = l1 ∧ n = n1 ∧ LA = LA1 ∧ T = LB1) := by
    have := HX.out
    unfold loss at this
    dsimp only at this
    rw [hls, hT] at this
    cases this
    exact ⟨rfl, rfl, rfl, rfl, rfl, rfl⟩
  have HT := hid_of hT
  clear hls HX hT
  have z := ((Own6.new (d := d) (f := f) (l := l) (n := n) (A := A) (na := LA.length) (ca := ca) (B := B) (nb := LB.length) (cb := cb) w).alloc (.cells #[.int .i64 o, .string dp, .bool fp] 27)).alloc (.cells #[.string (⟨#[]⟩ : ByteArray), .bool false, .int .i64 0, .int .i64 0, .slice none 0 0, .slice none 0 0] 25)
  have q := (Own3.new (w.alloc (.cells #[.string d, .bool f, .int .i64 l, .int .i64 n, .slice A LA.length ca, .slice B LB.length cb] 25)) o dp fp).alloc (.cells #[.string (⟨#[]⟩ : ByteArray), .bool false, .int .i64 0, .int .i64 0, .slice none 0 0, .slice none 0 0] 25)
  have r := Own6.new (d := (⟨#[]⟩ : ByteArray)) (f := false) (l := 0) (n := 0) (A := none) (na := 0) (ca := 0) (B := none) (nb := 0) (cb := 0) ((w.alloc (.cells #[.string d, .bool f, .int .i64 l, .int .i64 n, .slice A LA.length ca, .slice B LB.length cb] 25)).alloc (.cells #[.int .i64 o, .string dp, .bool fp] 27))
  rw [show (w.alloc (.cells #[.string d, .bool f, .int .i64 l, .int .i64 n, .slice A LA.length ca, .slice B LB.length cb] 25)).heap.size = w.heap.size + 1 from by simp] at q
  rw [show ((w.alloc (.cells #[.string d, .bool f, .int .i64 l, .int .i64 n, .slice A LA.length ca, .slice B LB.length cb] 25)).alloc (.cells #[.int .i64 o, .string dp, .bool fp] 27)).heap.size = w.heap.size + 1 + 1 from by simp] at r
  have hW0 : Below w.heap.size w _ := (((Below.refl _ w).alloc (Nat.le_refl _) (.cells #[.string d, .bool f, .int .i64 l, .int .i64 n, .slice A LA.length ca, .slice B LB.length cb] 25)).alloc (by simp) (.cells #[.int .i64 o, .string dp, .bool fp] 27)).alloc (by simp; omega) (.cells #[.string (⟨#[]⟩ : ByteArray), .bool false, .int .i64 0, .int .i64 0, .slice none 0 0, .slice none 0 0] 25)
  have hsz : (((w.alloc (.cells #[.string d, .bool f, .int .i64 l, .int .i64 n, .slice A LA.length ca, .slice B LB.length cb] 25)).alloc (.cells #[.int .i64 o, .string dp, .bool fp] 27)).alloc (.cells #[.string (⟨#[]⟩ : ByteArray), .bool false, .int .i64 0, .int .i64 0, .slice none 0 0, .slice none 0 0] 25)).heap.size = w.heap.size + 1 + 1 + 1 := by simp
  go_enter Try.func20, Try.ntmps20
  have HZ := hid_of z
  have HQ := hid_of q
  have HR := hid_of r
  obtain ⟨⟨z0, z1, z2, z3, z4, z5⟩, zf⟩ := HZ.out
  obtain ⟨⟨q0, q1, q2⟩, qf⟩ := HQ.out
  clear z q r
  go_wp2_with (first
    | (go_at_call 28; (with_reducible refine (psent_i HV.out _ (hA.below hW0) (hB.below hW0) hn hn' hdp).mono ?_); rintro e w1 ⟨rfl, hb1⟩; have HZ1 := hid_of (HZ.out.under hb1 (by omega)); have HQ1 := hid_of (HQ.out.under hb1 (by omega)); have HR1 := hid_of (HR.out.under hb1 (by omega)); have hw1 := hW0.trans (hb1.mono hW0.size); have hs1 : w.heap.size + 1 + 1 + 1 ≤ w1.heap.size := (by have := hb1.size; omega); clear z0 z1 z2 z3 z4 z5 zf q0 q1 q2 qf hb1; obtain ⟨⟨z0, z1, z2, z3, z4, z5⟩, zf⟩ := HZ1.out)
    | (go_at_call 47; (with_reducible refine (copy_i d f l n LA LB A ca B cb _ (hA.below hw1) (hB.below hw1) eA eB (by omega) (by omega)).mono ?_); rintro e w2 ⟨⟨_, rfl, A1, c1, B1, c2, rfl, hI1, hJ1, hap⟩, hb2⟩; have HZ2 := hid_of (HZ1.out.under hb2 (by omega)); have HQ2 := hid_of (HQ1.out.under hb2 (by omega)); have HR2 := hid_of (HR1.out.under hb2 (by omega)); have hw2 := hw1.trans (hb2.mono hw1.size); have hs2 : w.heap.size + 1 + 1 + 1 ≤ w2.heap.size := (by have := hb2.size; omega); have hI1 : RngIn w2 (w.heap.size + 1 + 1 + 1) w2.heap.size A1 LA.length c1 LA := hI1.mono (by omega) (Nat.le_refl _); have hJ1 : RngIn w2 (w.heap.size + 1 + 1 + 1) w2.heap.size B1 LB.length c2 LB := hJ1.mono (by omega) (Nat.le_refl _); have q0 := (HQ2.out.alloc (.cells #[.string d, .bool f, .int .i64 l, .int .i64 n, .slice A1 LA.length c1, .slice B1 LB.length c2] 25)).1.1; clear z0 z1 z2 z3 z4 z5 zf hb2))
  have HS : Hid (LS w _ w2.heap.size d f l n LA LB A ca B cb o dp fp A1 c1 LB B1 c2) := ⟨HZ2.out.alloc _, HQ2.out.alloc _, HR2.out.alloc _, Own6.new w2, hI1.alloc _, (hJ1.alloc _).mono (Nat.le_refl _) (by simp), hap, ba hw2 _, hs2, by simp⟩
  clear hI1 hJ1 hap HZ HQ HR HZ1 HQ1 HR1 HZ2 HQ2 HR2
  clear q0
  go_loopw [7] (fun i wr => ∃ (j : Int) (M : List Rg) (Bk : Option Addr) (ck : Nat), i = .int .i64 j ∧ o ≤ j ∧ j ≤ ls + 1 ∧ Hid (lose LA (ls + 1 - j).toNat j M = T) ∧ Hid (LInv M) ∧ Hid (LS w wr w2.heap.size d f l n LA LB A ca B cb o dp fp A1 c1 M Bk ck)) (fun i _ => (ls + 1 - intOf i).toNat)
  case atStart => exact ⟨o, LB, B1, c2, rfl, Int.le_refl _, by omega, HT, HI0, HS⟩
  case round =>
    obtain ⟨j, M, Bk, ck, rfl, hj0, hj1, HM, HI, HS⟩ := hrel
    clear HT
    obtain ⟨⟨q0, q1, q2⟩, qf⟩ := HS.out.q
    have hw := HS.out.bw
    have hx1 := HS.out.x
    have hx2 := HS.out.lt
    by_cases hlt : j ≤ ls
    · have HM : Hid (lose LA (ls + 1 - (j + 1)).toNat (j + 1) (if memB LA j = true then M else add M j j) = T) := (lose_step hlt).symm.trans HM.out
      obtain ⟨b, hb⟩ : ∃ b, memB LA j = b := ⟨_, rfl⟩
      rw [hb] at HM
      have HBB := hid_of hb
      clear hb
      cases b with
      | true =>
        go_wp2_with (first
          | (go_at_call 49; (with_reducible refine (last_v_j HLS.out _ ⟨by omega, by omega⟩ (by omega)).mono ?_); rintro e w5 ⟨rfl, hx5⟩; have hb5 : Below wr.heap.size wr w5 := (by obtain ⟨y, rfl⟩ := hx5; go_grown); have S1 := HS.out.below hb5; have S1 := hid_of S1; obtain ⟨⟨z0, z1, z2, z3, z4, z5⟩, zf⟩ := S1.out.z; clear q0 q1 q2 qf z0 z1 z2 z3 z5 zf hx5)
          | (go_at_call 54; (with_reducible refine (has_v' HBB.out _ (hA.below S1.out.bw) (by omega)).mono ?_); rintro e w6 ⟨rfl, hb6⟩; have S2 := S1.out.below hb6))
        go_roundw
        case rel => exact ⟨j + 1, M, Bk, ck, by go_num, by omega, by omega, HM, HI, S2⟩
        case measure => simp [intOf]; omega
      | false =>
        go_wp2_with (first
          | (go_at_call 49; (with_reducible refine (last_v_j HLS.out _ ⟨by omega, by omega⟩ (by omega)).mono ?_); rintro e w5 ⟨rfl, hx5⟩; have hb5 : Below wr.heap.size wr w5 := (by obtain ⟨y, rfl⟩ := hx5; go_grown); have S1 := HS.out.below hb5; have S1 := hid_of S1; obtain ⟨⟨z0, z1, z2, z3, z4, z5⟩, zf⟩ := S1.out.z; clear q0 q1 q2 qf z0 z1 z2 z3 z5 zf hx5)
          | (go_at_call 54; (with_reducible refine (has_v' HBB.out _ (hA.below S1.out.bw) (by omega)).mono ?_); rintro e w6 ⟨rfl, hb6⟩; have S2 := S1.out.below hb6; obtain ⟨⟨o0, o1, o2, o3, o4, o5⟩, of⟩ := S2.o; clear z4 o0 o1 o2 o3 o4)
          | (go_at_call 48; (with_reducible refine (added_v rfl Bk ck _ S2.b.reads (by have := HI.out.len; omega) ⟨by omega, by omega⟩ ⟨by omega, by omega⟩ HI.out.wide (fun e => S2.b.none_cap e) S2.b.cap.1).mono ?_); rintro e w7 ⟨B2, c3, rfl, hI7, hb7⟩; have S3 := S2.below hb7; have hs6 : w2.heap.size < w6.heap.size := S2.lt; obtain ⟨⟨o0, o1, o2, o3, o4, o5⟩, of⟩ := S3.o; clear o0 o1 o2 o3 o4))
        go_roundw
        case rel => exact ⟨j + 1, add M j j, B2, c3, by go_num, by omega, by omega, HM, HI.out.add (by omega) (by omega), S3.put hs6 hI7⟩
        case measure => simp [intOf]; omega
    · obtain rfl : j = ls + 1 := by omega
      have HM : Hid (M = T) := lose_end.symm.trans HM.out
      go_wp2_with (first
          | (go_at_call 49; (with_reducible refine (last_v_j HLS.out _ ⟨by omega, by omega⟩ (by omega)).mono ?_); rintro e w5 ⟨rfl, hx5⟩; have hb5 : Below wr.heap.size wr w5 := (by obtain ⟨y, rfl⟩ := hx5; go_grown); have S1 := HS.out.below hb5; have S1 := hid_of S1; obtain ⟨⟨r0, r1, r2, r3, r4, r5⟩, rf⟩ := S1.out.r; obtain ⟨⟨o0, o1, o2, o3, o4, o5⟩, of⟩ := S1.out.o; clear q0 q1 q2 qf hx5))
      try simp only [Exit.inBlock, Exit.then]
      obtain ⟨rfl, rfl, rfl, rfl, rfl, rfl⟩ := HE.out
      obtain rfl := HM.out
      refine bodyPost_ret (results_sb rfl rfl rfl (S1.out.r.setAll d f l n A1 LA.length c1 Bk M.length ck)) rfl ?_
      have ha := S1.out.a
      have hb := S1.out.b
      refine ⟨⟨_, rfl, A1, c1, Bk, ck, rfl, ?_, ?_, S1.out.ap⟩, ?_⟩
      · refine RngIn.mono (B := w.heap.size + 1 + 1 + 1) (S := w2.heap.size) ?_ (by omega) (by have := S1.out.lt; simp [World.setCell]; omega)
        repeat refine RngIn.setLow ?_ (by dsimp only; omega) _
        exact ha
      · refine RngIn.mono (B := w.heap.size + 1 + 1 + 1) (S := w5.heap.size) ?_ (by omega) (by simp [World.setCell])
        repeat refine RngIn.setLow ?_ (by dsimp only; omega) _
        exact hb
      · repeat refine Below.setCell ?_ (by dsimp only; omega) _
        exact S1.out.bw

theorem sloss_i (d : ByteArray) (f : Bool) (l n : Int) (LA LB : List Rg) (A : Option Addr) (ca : Nat) (B : Option Addr) (cb : Nat) (o : Int) (dp : ByteArray) (fp : Bool) (w : World) (hA : RngAt w A LA.length LA) (hB : RngAt w B LB.length LB) (eA : A = none → ca = 0) (eB : B = none → cb = 0) (hn : LA.length ≤ 2000000) (hn' : LB.length ≤ 2000000) (hdp : dp.size ≤ 2000000) :
    Calls Try.prog 20 #[.agg #[.string d, .bool f, .int .i64 l, .int .i64 n, .slice A LA.length ca, .slice B LB.length cb], .agg #[.int .i64 o, .string dp, .bool fp]] w (GotSb w (sendLoss ⟨d, f, l, n, LA, LB⟩ ⟨o, dp, fp⟩)) := by
  unfold sendLoss
  cases hv : sentOk ⟨d, f, l, n, LA, LB⟩ ⟨o, dp, fp⟩ with
  | false => rw [if_neg (by decide)]; exact sloss_i_bad d f l n LA LB A ca B cb o dp fp w hA hB eA eB hn hn' hdp hv
  | true => rw [if_pos rfl]; exact sloss_i_ok d f l n LA LB A ca B cb o dp fp w hA hB eA eB hn hn' hdp hv _ _ _ _ _ _ (hid_of rfl)

end Go.Proofs.Ytmkmaeblnnfheaa
/- SendAck and SendLoss on both sides. -/
namespace Go.Proofs.Ytmkmaeblnnfheaa
end Go.Proofs.Ytmkmaeblnnfheaa
/- The program's SendWrite. -/
namespace Go.Proofs.Ytmkmaeblnnfheaa
open Go.RowKit
attribute [local irreducible] Go.wpQuiet

set_option linter.unusedVariables false in
set_option maxRecDepth 100000 in
set_option maxHeartbeats 4000000 in
theorem write_i_bad (d : ByteArray) (f : Bool) (l n : Int) (LA LB : List Rg) (A : Option Addr) (ca : Nat) (B : Option Addr) (cb : Nat) (b : ByteArray) (w : World) (hA : RngAt w A LA.length LA) (hB : RngAt w B LB.length LB) (eA : A = none → ca = 0) (eB : B = none → cb = 0) (hn : LA.length ≤ 2000000) (hn' : LB.length ≤ 2000000) (HV : Hid (okS ⟨d, f, l, n, LA, LB⟩ = false)) :
    Calls Try.prog 25 #[.agg #[.string d, .bool f, .int .i64 l, .int .i64 n, .slice A LA.length ca, .slice B LB.length cb], .string b] w (GotSb w (sd0, false)) := by
  have z := (Own6.new (d := d) (f := f) (l := l) (n := n) (A := A) (na := LA.length) (ca := ca) (B := B) (nb := LB.length) (cb := cb) w).alloc (.cells #[.string (⟨#[]⟩ : ByteArray), .bool false, .int .i64 0, .int .i64 0, .slice none 0 0, .slice none 0 0] 25)
  have r := Own6.new (d := (⟨#[]⟩ : ByteArray)) (f := false) (l := 0) (n := 0) (A := none) (na := 0) (ca := 0) (B := none) (nb := 0) (cb := 0) (w.alloc (.cells #[.string d, .bool f, .int .i64 l, .int .i64 n, .slice A LA.length ca, .slice B LB.length cb] 25))
  rw [show (w.alloc (.cells #[.string d, .bool f, .int .i64 l, .int .i64 n, .slice A LA.length ca, .slice B LB.length cb] 25)).heap.size = w.heap.size + 1 from by simp] at r
  have hW0 : Below w.heap.size w _ := ((Below.refl _ w).alloc (Nat.le_refl _) (.cells #[.string d, .bool f, .int .i64 l, .int .i64 n, .slice A LA.length ca, .slice B LB.length cb] 25)).alloc (by simp) (.cells #[.string (⟨#[]⟩ : ByteArray), .bool false, .int .i64 0, .int .i64 0, .slice none 0 0, .slice none 0 0] 25)
  have hsz : ((w.alloc (.cells #[.string d, .bool f, .int .i64 l, .int .i64 n, .slice A LA.length ca, .slice B LB.length cb] 25)).alloc (.cells #[.string (⟨#[]⟩ : ByteArray), .bool false, .int .i64 0, .int .i64 0, .slice none 0 0, .slice none 0 0] 25)).heap.size = w.heap.size + 1 + 1 := by simp
  have HZ := hid_of z
  have HR := hid_of r
  obtain ⟨⟨z0, z1, z2, z3, z4, z5⟩, zf⟩ := z
  clear r
  go_enter Try.func25, Try.ntmps25
  go_wp2_with (first
    | (go_at_call 19; (with_reducible refine (sv_v_i HV.out _ (hA.below hW0) (hB.below hW0) hn hn').mono ?_); rintro e w1 ⟨rfl, hb1⟩; have HZ1 := hid_of (HZ.out.under hb1 (by omega)); have HR1 := hid_of (HR.out.under hb1 (by omega)); have hw1 := hW0.trans (hb1.mono hW0.size); have hs1 : w.heap.size + 1 + 1 ≤ w1.heap.size := (by have := hb1.size; omega); clear z0 z1 z2 z3 z4 z5 zf hb1; obtain ⟨⟨r0, r1, r2, r3, r4, r5⟩, rf⟩ := HR1.out))
  try simp only [Exit.inBlock, Exit.then]
  refine bodyPost_ret (results_sb rfl rfl rfl (HR1.out.setAll ⟨#[]⟩ false 0 0 none 0 0 none 0 0)) rfl ?_
  refine ⟨⟨_, rfl, got_zero rfl⟩, ?_⟩
  repeat refine Below.setCell ?_ (by dsimp only; omega) _
  exact hw1

set_option linter.unusedVariables false in
set_option maxRecDepth 100000 in
set_option maxHeartbeats 4000000 in
theorem write_i_fin (d : ByteArray) (l n : Int) (LA LB : List Rg) (A : Option Addr) (ca : Nat) (B : Option Addr) (cb : Nat) (b : ByteArray) (w : World) (hA : RngAt w A LA.length LA) (hB : RngAt w B LB.length LB) (eA : A = none → ca = 0) (eB : B = none → cb = 0) (hn : LA.length ≤ 2000000) (hn' : LB.length ≤ 2000000) (HV : Hid (okS ⟨d, true, l, n, LA, LB⟩ = true)) :
    Calls Try.prog 25 #[.agg #[.string d, .bool true, .int .i64 l, .int .i64 n, .slice A LA.length ca, .slice B LB.length cb], .string b] w (GotSb w (⟨d, true, l, n, LA, LB⟩, false)) := by
  have z := (Own6.new (d := d) (f := true) (l := l) (n := n) (A := A) (na := LA.length) (ca := ca) (B := B) (nb := LB.length) (cb := cb) w).alloc (.cells #[.string (⟨#[]⟩ : ByteArray), .bool false, .int .i64 0, .int .i64 0, .slice none 0 0, .slice none 0 0] 25)
  have r := Own6.new (d := (⟨#[]⟩ : ByteArray)) (f := false) (l := 0) (n := 0) (A := none) (na := 0) (ca := 0) (B := none) (nb := 0) (cb := 0) (w.alloc (.cells #[.string d, .bool true, .int .i64 l, .int .i64 n, .slice A LA.length ca, .slice B LB.length cb] 25))
  rw [show (w.alloc (.cells #[.string d, .bool true, .int .i64 l, .int .i64 n, .slice A LA.length ca, .slice B LB.length cb] 25)).heap.size = w.heap.size + 1 from by simp] at r
  have hW0 : Below w.heap.size w _ := ((Below.refl _ w).alloc (Nat.le_refl _) (.cells #[.string d, .bool true, .int .i64 l, .int .i64 n, .slice A LA.length ca, .slice B LB.length cb] 25)).alloc (by simp) (.cells #[.string (⟨#[]⟩ : ByteArray), .bool false, .int .i64 0, .int .i64 0, .slice none 0 0, .slice none 0 0] 25)
  have hsz : ((w.alloc (.cells #[.string d, .bool true, .int .i64 l, .int .i64 n, .slice A LA.length ca, .slice B LB.length cb] 25)).alloc (.cells #[.string (⟨#[]⟩ : ByteArray), .bool false, .int .i64 0, .int .i64 0, .slice none 0 0, .slice none 0 0] 25)).heap.size = w.heap.size + 1 + 1 := by simp
  have HZ := hid_of z
  have HR := hid_of r
  obtain ⟨⟨z0, z1, z2, z3, z4, z5⟩, zf⟩ := z
  clear r
  go_enter Try.func25, Try.ntmps25
  go_wp2_with (first
    | (go_at_call 19; (with_reducible refine (sv_v_i HV.out _ (hA.below hW0) (hB.below hW0) hn hn').mono ?_); rintro e w1 ⟨rfl, hb1⟩; have HZ1 := hid_of (HZ.out.under hb1 (by omega)); have HR1 := hid_of (HR.out.under hb1 (by omega)); have hw1 := hW0.trans (hb1.mono hW0.size); have hs1 : w.heap.size + 1 + 1 ≤ w1.heap.size := (by have := hb1.size; omega); clear z0 z1 z2 z3 z4 z5 zf hb1; obtain ⟨⟨z0, z1, z2, z3, z4, z5⟩, zf⟩ := HZ1.out)
    | (go_at_call 47; (with_reducible refine (copy_i d true l n LA LB A ca B cb _ (hA.below hw1) (hB.below hw1) eA eB (by omega) (by omega)).mono ?_); rintro e w2 ⟨⟨_, rfl, A1, c1, B1, c2, rfl, hI1, hJ1, hap⟩, hb2⟩; have HZ2 := hid_of (HZ1.out.under hb2 (by omega)); have HR2 := hid_of (HR1.out.under hb2 (by omega)); have hw2 := hw1.trans (hb2.mono hw1.size); have hI1 : RngIn w2 (w.heap.size + 1 + 1) w2.heap.size A1 LA.length c1 LA := hI1.mono (by omega) (Nat.le_refl _); have hJ1 : RngIn w2 (w.heap.size + 1 + 1) w2.heap.size B1 LB.length c2 LB := hJ1.mono (by omega) (Nat.le_refl _); have hs2 := hb2.size; have ra0 := fun o => (HR2.out.alloc o).1.1; have ra1 := fun o => (HR2.out.alloc o).1.2.1; have ra2 := fun o => (HR2.out.alloc o).1.2.2.1; have ra3 := fun o => (HR2.out.alloc o).1.2.2.2.1; have ra4 := fun o => (HR2.out.alloc o).1.2.2.2.2.1; have ra5 := fun o => (HR2.out.alloc o).1.2.2.2.2.2; have raf := fun o => (HR2.out.alloc o).2; have za0 := fun o => (HZ2.out.alloc o).1.1; have za1 := fun o => (HZ2.out.alloc o).1.2.1; have za2 := fun o => (HZ2.out.alloc o).1.2.2.1; clear z0 z1 z2 z3 z4 z5 zf hb2))
  try simp only [Exit.inBlock, Exit.then]
  refine bodyPost_ret (results_sb rfl rfl rfl ((HR2.out.alloc _).setAll d true l n A1 LA.length c1 B1 LB.length c2)) rfl ?_
  refine ⟨⟨_, rfl, A1, c1, B1, c2, rfl, ?_, ?_, hap⟩, ?_⟩
  · refine RngIn.mono (B := w.heap.size + 1 + 1) (S := w2.heap.size) ?_ (by omega) (by simp [World.setCell])
    repeat refine RngIn.setLow ?_ (by dsimp only; omega) _
    exact hI1.alloc _
  · refine RngIn.mono (B := w.heap.size + 1 + 1) (S := w2.heap.size) ?_ (by omega) (by simp [World.setCell])
    repeat refine RngIn.setLow ?_ (by dsimp only; omega) _
    exact hJ1.alloc _
  · repeat refine Below.setCell ?_ (by dsimp only; omega) _
    exact ba hw2 _

set_option linter.unusedVariables false in
set_option maxRecDepth 100000 in
set_option maxHeartbeats 4000000 in
theorem write_i_long (d : ByteArray) (l n : Int) (LA LB : List Rg) (A : Option Addr) (ca : Nat) (B : Option Addr) (cb : Nat) (b : ByteArray) (w : World) (hA : RngAt w A LA.length LA) (hB : RngAt w B LB.length LB) (eA : A = none → ca = 0) (eB : B = none → cb = 0) (hn : LA.length ≤ 2000000) (hn' : LB.length ≤ 2000000) (HV : Hid (okS ⟨d, false, l, n, LA, LB⟩ = true)) (h2 : decide ((30 : Int) < (d.size : Int) + (b.size : Int)) = true) (hbs : b.size ≤ 1000000) :
    Calls Try.prog 25 #[.agg #[.string d, .bool false, .int .i64 l, .int .i64 n, .slice A LA.length ca, .slice B LB.length cb], .string b] w (GotSb w (⟨d, false, l, n, LA, LB⟩, false)) := by
  have hd : d.size ≤ 30 := (okS_iff.1 HV.out).len
  have z := (Own6.new (d := d) (f := false) (l := l) (n := n) (A := A) (na := LA.length) (ca := ca) (B := B) (nb := LB.length) (cb := cb) w).alloc (.cells #[.string (⟨#[]⟩ : ByteArray), .bool false, .int .i64 0, .int .i64 0, .slice none 0 0, .slice none 0 0] 25)
  have r := Own6.new (d := (⟨#[]⟩ : ByteArray)) (f := false) (l := 0) (n := 0) (A := none) (na := 0) (ca := 0) (B := none) (nb := 0) (cb := 0) (w.alloc (.cells #[.string d, .bool false, .int .i64 l, .int .i64 n, .slice A LA.length ca, .slice B LB.length cb] 25))
  rw [show (w.alloc (.cells #[.string d, .bool false, .int .i64 l, .int .i64 n, .slice A LA.length ca, .slice B LB.length cb] 25)).heap.size = w.heap.size + 1 from by simp] at r
  have hW0 : Below w.heap.size w _ := ((Below.refl _ w).alloc (Nat.le_refl _) (.cells #[.string d, .bool false, .int .i64 l, .int .i64 n, .slice A LA.length ca, .slice B LB.length cb] 25)).alloc (by simp) (.cells #[.string (⟨#[]⟩ : ByteArray), .bool false, .int .i64 0, .int .i64 0, .slice none 0 0, .slice none 0 0] 25)
  have hsz : ((w.alloc (.cells #[.string d, .bool false, .int .i64 l, .int .i64 n, .slice A LA.length ca, .slice B LB.length cb] 25)).alloc (.cells #[.string (⟨#[]⟩ : ByteArray), .bool false, .int .i64 0, .int .i64 0, .slice none 0 0, .slice none 0 0] 25)).heap.size = w.heap.size + 1 + 1 := by simp
  have HZ := hid_of z
  have HR := hid_of r
  obtain ⟨⟨z0, z1, z2, z3, z4, z5⟩, zf⟩ := z
  clear r
  go_enter Try.func25, Try.ntmps25
  go_wp2_with (first
    | (go_at_call 19; (with_reducible refine (sv_v_i HV.out _ (hA.below hW0) (hB.below hW0) hn hn').mono ?_); rintro e w1 ⟨rfl, hb1⟩; have HZ1 := hid_of (HZ.out.under hb1 (by omega)); have HR1 := hid_of (HR.out.under hb1 (by omega)); have hw1 := hW0.trans (hb1.mono hW0.size); have hs1 : w.heap.size + 1 + 1 ≤ w1.heap.size := (by have := hb1.size; omega); clear z0 z1 z2 z3 z4 z5 zf hb1; obtain ⟨⟨z0, z1, z2, z3, z4, z5⟩, zf⟩ := HZ1.out)
    | (go_at_call 47; (with_reducible refine (copy_i d false l n LA LB A ca B cb _ (hA.below hw1) (hB.below hw1) eA eB (by omega) (by omega)).mono ?_); rintro e w2 ⟨⟨_, rfl, A1, c1, B1, c2, rfl, hI1, hJ1, hap⟩, hb2⟩; have HZ2 := hid_of (HZ1.out.under hb2 (by omega)); have HR2 := hid_of (HR1.out.under hb2 (by omega)); have hw2 := hw1.trans (hb2.mono hw1.size); have hI1 : RngIn w2 (w.heap.size + 1 + 1) w2.heap.size A1 LA.length c1 LA := hI1.mono (by omega) (Nat.le_refl _); have hJ1 : RngIn w2 (w.heap.size + 1 + 1) w2.heap.size B1 LB.length c2 LB := hJ1.mono (by omega) (Nat.le_refl _); have hs2 := hb2.size; have ra0 := fun o => (HR2.out.alloc o).1.1; have ra1 := fun o => (HR2.out.alloc o).1.2.1; have ra2 := fun o => (HR2.out.alloc o).1.2.2.1; have ra3 := fun o => (HR2.out.alloc o).1.2.2.2.1; have ra4 := fun o => (HR2.out.alloc o).1.2.2.2.2.1; have ra5 := fun o => (HR2.out.alloc o).1.2.2.2.2.2; have raf := fun o => (HR2.out.alloc o).2; have za0 := fun o => (HZ2.out.alloc o).1.1; have za1 := fun o => (HZ2.out.alloc o).1.2.1; have za2 := fun o => (HZ2.out.alloc o).1.2.2.1; clear z0 z1 z2 z3 z4 z5 zf hb2))
  try simp only [Exit.inBlock, Exit.then]
  refine bodyPost_ret (results_sb rfl rfl rfl ((HR2.out.alloc _).setAll d false l n A1 LA.length c1 B1 LB.length c2)) rfl ?_
  refine ⟨⟨_, rfl, A1, c1, B1, c2, rfl, ?_, ?_, hap⟩, ?_⟩
  · refine RngIn.mono (B := w.heap.size + 1 + 1) (S := w2.heap.size) ?_ (by omega) (by simp [World.setCell])
    repeat refine RngIn.setLow ?_ (by dsimp only; omega) _
    exact hI1.alloc _
  · refine RngIn.mono (B := w.heap.size + 1 + 1) (S := w2.heap.size) ?_ (by omega) (by simp [World.setCell])
    repeat refine RngIn.setLow ?_ (by dsimp only; omega) _
    exact hJ1.alloc _
  · repeat refine Below.setCell ?_ (by dsimp only; omega) _
    exact ba hw2 _

set_option linter.unusedVariables false in
set_option maxRecDepth 100000 in
set_option maxHeartbeats 4000000 in
theorem write_i_ok (d : ByteArray) (l n : Int) (LA LB : List Rg) (A : Option Addr) (ca : Nat) (B : Option Addr) (cb : Nat) (b : ByteArray) (w : World) (hA : RngAt w A LA.length LA) (hB : RngAt w B LB.length LB) (eA : A = none → ca = 0) (eB : B = none → cb = 0) (hn : LA.length ≤ 2000000) (hn' : LB.length ≤ 2000000) (HV : Hid (okS ⟨d, false, l, n, LA, LB⟩ = true)) (h2 : decide ((30 : Int) < (d.size : Int) + (b.size : Int)) = false) (hbs : b.size ≤ 1000000) :
    Calls Try.prog 25 #[.agg #[.string d, .bool false, .int .i64 l, .int .i64 n, .slice A LA.length ca, .slice B LB.length cb], .string b] w (GotSb w (⟨d ++ b, false, l, n, LA, LB⟩, true)) := by
  have hd : d.size ≤ 30 := (okS_iff.1 HV.out).len
  have z := (Own6.new (d := d) (f := false) (l := l) (n := n) (A := A) (na := LA.length) (ca := ca) (B := B) (nb := LB.length) (cb := cb) w).alloc (.cells #[.string (⟨#[]⟩ : ByteArray), .bool false, .int .i64 0, .int .i64 0, .slice none 0 0, .slice none 0 0] 25)
  have r := Own6.new (d := (⟨#[]⟩ : ByteArray)) (f := false) (l := 0) (n := 0) (A := none) (na := 0) (ca := 0) (B := none) (nb := 0) (cb := 0) (w.alloc (.cells #[.string d, .bool false, .int .i64 l, .int .i64 n, .slice A LA.length ca, .slice B LB.length cb] 25))
  rw [show (w.alloc (.cells #[.string d, .bool false, .int .i64 l, .int .i64 n, .slice A LA.length ca, .slice B LB.length cb] 25)).heap.size = w.heap.size + 1 from by simp] at r
  have hW0 : Below w.heap.size w _ := ((Below.refl _ w).alloc (Nat.le_refl _) (.cells #[.string d, .bool false, .int .i64 l, .int .i64 n, .slice A LA.length ca, .slice B LB.length cb] 25)).alloc (by simp) (.cells #[.string (⟨#[]⟩ : ByteArray), .bool false, .int .i64 0, .int .i64 0, .slice none 0 0, .slice none 0 0] 25)
  have hsz : ((w.alloc (.cells #[.string d, .bool false, .int .i64 l, .int .i64 n, .slice A LA.length ca, .slice B LB.length cb] 25)).alloc (.cells #[.string (⟨#[]⟩ : ByteArray), .bool false, .int .i64 0, .int .i64 0, .slice none 0 0, .slice none 0 0] 25)).heap.size = w.heap.size + 1 + 1 := by simp
  have HZ := hid_of z
  have HR := hid_of r
  obtain ⟨⟨z0, z1, z2, z3, z4, z5⟩, zf⟩ := z
  clear r
  go_enter Try.func25, Try.ntmps25
  go_wp2_with (first
    | (go_at_call 19; (with_reducible refine (sv_v_i HV.out _ (hA.below hW0) (hB.below hW0) hn hn').mono ?_); rintro e w1 ⟨rfl, hb1⟩; have HZ1 := hid_of (HZ.out.under hb1 (by omega)); have HR1 := hid_of (HR.out.under hb1 (by omega)); have hw1 := hW0.trans (hb1.mono hW0.size); have hs1 : w.heap.size + 1 + 1 ≤ w1.heap.size := (by have := hb1.size; omega); clear z0 z1 z2 z3 z4 z5 zf hb1; obtain ⟨⟨z0, z1, z2, z3, z4, z5⟩, zf⟩ := HZ1.out)
    | (go_at_call 47; (with_reducible refine (copy_i d false l n LA LB A ca B cb _ (hA.below hw1) (hB.below hw1) eA eB (by omega) (by omega)).mono ?_); rintro e w2 ⟨⟨_, rfl, A1, c1, B1, c2, rfl, hI1, hJ1, hap⟩, hb2⟩; have HZ2 := hid_of (HZ1.out.under hb2 (by omega)); have HR2 := hid_of (HR1.out.under hb2 (by omega)); have hw2 := hw1.trans (hb2.mono hw1.size); have hI1 : RngIn w2 (w.heap.size + 1 + 1) w2.heap.size A1 LA.length c1 LA := hI1.mono (by omega) (Nat.le_refl _); have hJ1 : RngIn w2 (w.heap.size + 1 + 1) w2.heap.size B1 LB.length c2 LB := hJ1.mono (by omega) (Nat.le_refl _); have hs2 := hb2.size; have ra0 := fun o => (HR2.out.alloc o).1.1; have ra1 := fun o => (HR2.out.alloc o).1.2.1; have ra2 := fun o => (HR2.out.alloc o).1.2.2.1; have ra3 := fun o => (HR2.out.alloc o).1.2.2.2.1; have ra4 := fun o => (HR2.out.alloc o).1.2.2.2.2.1; have ra5 := fun o => (HR2.out.alloc o).1.2.2.2.2.2; have raf := fun o => (HR2.out.alloc o).2; have za0 := fun o => (HZ2.out.alloc o).1.1; have za1 := fun o => (HZ2.out.alloc o).1.2.1; have za2 := fun o => (HZ2.out.alloc o).1.2.2.1; clear z0 z1 z2 z3 z4 z5 zf hb2))
  try simp only [Exit.inBlock, Exit.then]
  refine bodyPost_ret (results_sb rfl rfl rfl ((HR2.out.alloc _).setAll (d ++ b) false l n A1 LA.length c1 B1 LB.length c2)) rfl ?_
  refine ⟨⟨_, rfl, A1, c1, B1, c2, rfl, ?_, ?_, hap⟩, ?_⟩
  · refine RngIn.mono (B := w.heap.size + 1 + 1) (S := w2.heap.size) ?_ (by omega) (by simp [World.setCell])
    repeat refine RngIn.setLow ?_ (by dsimp only; omega) _
    exact hI1.alloc _
  · refine RngIn.mono (B := w.heap.size + 1 + 1) (S := w2.heap.size) ?_ (by omega) (by simp [World.setCell])
    repeat refine RngIn.setLow ?_ (by dsimp only; omega) _
    exact hJ1.alloc _
  · repeat refine Below.setCell ?_ (by dsimp only; omega) _
    exact ba hw2 _

theorem write_i (d : ByteArray) (f : Bool) (l n : Int) (LA LB : List Rg) (A : Option Addr) (ca : Nat) (B : Option Addr) (cb : Nat) (b : ByteArray) (w : World) (hA : RngAt w A LA.length LA) (hB : RngAt w B LB.length LB) (eA : A = none → ca = 0) (eB : B = none → cb = 0) (hn : LA.length ≤ 2000000) (hn' : LB.length ≤ 2000000) (hbs : b.size ≤ 1000000) :
    Calls Try.prog 25 #[.agg #[.string d, .bool f, .int .i64 l, .int .i64 n, .slice A LA.length ca, .slice B LB.length cb], .string b] w (GotSb w (sendWrite ⟨d, f, l, n, LA, LB⟩ b)) := by
  unfold sendWrite
  cases hv : okS ⟨d, f, l, n, LA, LB⟩ with
  | false => rw [if_neg (by decide)]; exact write_i_bad d f l n LA LB A ca B cb b w hA hB eA eB hn hn' hv
  | true =>
    rw [if_pos rfl]
    unfold write
    dsimp only
    cases hf : f with
    | true => rw [if_pos (.inl rfl)]; exact write_i_fin d l n LA LB A ca B cb b w hA hB eA eB hn hn' (hf ▸ hv)
    | false =>
      by_cases hl : 30 < d.size + b.size
      · rw [if_pos (.inr hl)]; exact write_i_long d l n LA LB A ca B cb b w hA hB eA eB hn hn' (hf ▸ hv) (decide_eq_true (by omega)) hbs
      · rw [if_neg (by rintro (e | e); cases e; exact hl e)]; exact write_i_ok d l n LA LB A ca B cb b w hA hB eA eB hn hn' (hf ▸ hv) (decide_eq_false (by omega)) hbs

end Go.Proofs.Ytmkmaeblnnfheaa
/- Everything is sent and acknowledged, plain: the state after each round. -/
namespace Go.Proofs.Ytmkmaeblnnfheaa
open Go.RowKit

/-- The stream of D with n positions sent, all of them acknowledged. -/
def upto (D : ByteArray) (n : Int) : Sd := ⟨D, true, 30, n, if n = 0 then [] else [⟨0, n - 1⟩], []⟩
theorem upto_mem {D : ByteArray} {n : Int} (i : Int) : memB (upto D n).A i = decide (0 ≤ i ∧ i < n) := by
  unfold upto
  dsimp only
  by_cases h : n = 0
  · rw [if_pos h, memB_nil, decide_eq_false (by omega)]
  · rw [if_neg h, memB_cons, memB_nil, Bool.or_false]
    unfold inB
    rw [Bool.eq_iff_iff, decide_eq_true_iff, decide_eq_true_iff]
    dsimp only
    omega
theorem upto_valid {D : ByteArray} {n : Int} (hD : D.size ≤ 30) (h0 : 0 ≤ n) (h1 : n ≤ D.size + 1) : SV (upto D n) := by
  have hc : Canon (upto D n).A := by
    unfold upto
    dsimp only
    by_cases h : n = 0
    · rw [if_pos h]; exact canon_nil
    · rw [if_neg h]; exact canon_cons.2 ⟨by dsimp only; omega, fun _ h => by simp at h, canon_nil⟩
  have hm := fun i => upto_mem (D := D) (n := n) i
  exact ⟨hD, by show (0 : Int) ≤ 30; decide, by show (30 : Int) ≤ 30; decide, h0, h1, by show min n (D.size : Int) ≤ 30; omega,
    rv_below (n := n) hc (fun i hi => by rw [hm, decide_eq_true_iff] at hi; exact hi) (by omega), ⟨by show 0 ≤ 16; decide, canon_nil, fun _ h => by cases h⟩,
    fun i hi => by rw [hm, decide_eq_true_iff] at hi; exact hi.2, fun i hi => (by cases hi), fun i _ hi => (by cases hi)⟩
/-- One round. -/
theorem upto_step {D : ByteArray} {n k : Int} (hD : D.size ≤ 30) (h0 : 0 ≤ n) (h1 : n ≤ D.size + 1) (hk : 1 ≤ k) :
    (n = D.size + 1 ∧ next (upto D n) k = (upto D n, pt0, false)) ∨
    ∃ m p s', n < m ∧ m ≤ D.size + 1 ∧ next (upto D n) k = (s', p, true) ∧ sentB s' p = true ∧ SV s' ∧ ack s' p = upto D m ∧ D.extract 0 (min n D.size).toNat ++ p.d = D.extract 0 (min m D.size).toNat := by
  have hv := upto_valid hD h0 h1
  have hpos : (upto D n).pos = D.size + 1 := rfl
  rcases nx_cases hv hk with ⟨_, _, _, hL, _⟩ | ⟨_, hn, e⟩ | ⟨m, _, g0, g1, _, _, he, _, e⟩
  · cases hL
  · refine .inl ⟨?_, e⟩
    have hn : ¬ (n < min (D.size : Int) 30 ∨ (true = true ∧ n = (D.size : Int) ∧ (D.size : Int) ≤ 30)) := hn
    rcases Int.lt_or_le n (D.size : Int) with h | h
    · exact absurd (.inl (by omega)) hn
    · rcases Int.lt_or_le (D.size : Int) n with h' | h'
      · omega
      · exact absurd (.inr ⟨rfl, by omega, by omega⟩) hn
  · right
    have g0 : n < m := g0
    rw [hpos] at g1
    have hgood := next_good hv hk
    rw [e] at hgood
    obtain ⟨hv', hs⟩ := hgood
    obtain ⟨hs, _⟩ := hs rfl
    refine ⟨m, _, _, g0, g1, e, sentB_iff.2 hs, hv', ?_, ?_⟩
    · obtain ⟨e1, e2⟩ := part_last (s := upto D n) (lo := n) (hi := m - 1) h0 (by omega) (by show m - 1 ≤ (D.size : Int); omega)
      have e1 : (part (upto D n) (upto D n).n (m - 1)).last = m - 1 := e1
      unfold ack
      rw [e1]
      have ho : (part (upto D n) (upto D n).n (m - 1)).o = n := rfl
      rw [ho]
      unfold upto
      dsimp only
      have hA : add (if n = 0 then [] else [⟨0, n - 1⟩]) n (m - 1) = [⟨0, m - 1⟩] := by
        by_cases h : n = 0
        · rw [if_pos h, h]; rfl
        · rw [if_neg h]
          unfold add
          rw [if_neg (by dsimp only; omega)]
          unfold addMerge
          rw [if_pos (by dsimp only; omega)]
          unfold addMerge
          rw [show min n (0 : Int) = 0 from by omega, show max (m - 1) (n - 1) = m - 1 from by omega]
      rw [hA, if_neg (show ¬ m = 0 by omega)]
      rfl
    · have : (part (upto D n) (upto D n).n (m - 1)).d = D.extract n.toNat (max n (min (m - 1 + 1) (D.size : Int))).toNat := rfl
      rw [this]
      rcases Int.lt_or_le n (D.size : Int) with h | h
      · rw [show (min n (D.size : Int)).toNat = n.toNat from by omega, ByteArray.extract_append_extract]
        congr 1
        omega
      · rw [show (max n (min (m - 1 + 1) (D.size : Int))).toNat = n.toNat from by omega, show (min n (D.size : Int)).toNat = (min m (D.size : Int)).toNat from by omega]
        rw [show D.extract n.toNat n.toNat = ByteArray.empty from by simp]
        exact ByteArray.append_empty
theorem upto_done {D : ByteArray} (hD : D.size ≤ 30) : doneB (upto D (D.size + 1)) = true := by
  refine doneB_iff.2 ⟨upto_valid hD (by omega) (Int.le_refl _), rfl, ?_⟩
  unfold upto
  dsimp only
  rw [if_neg (by omega), show (D.size : Int) + 1 - 1 = D.size from by omega]

end Go.Proofs.Ytmkmaeblnnfheaa
