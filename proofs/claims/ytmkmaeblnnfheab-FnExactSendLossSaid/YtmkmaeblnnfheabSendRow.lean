/- For the rows: a stream and a part that came in, opened to their values and cells. -/
import Derived.Test.YtmkmaeblnnfheabRowKit
import Derived.Test.YtmkmaeblnnfheabRngMem
import Derived.Deep.Slices
import Derived.Deep.Fields
import Derived.ChangeSame
namespace Go.Proofs.Ytmkmaeblnnfheab
open Go.ChangeShapes Go.WideShapes Go.ChangeAt Go.RowKit Go.Joins Go.Deep

theorem list_of {P : Nat → Rg → Prop} : ∀ n : Nat, (∀ i, i < n → ∃ c, P i c) → ∃ L : List Rg, L.length = n ∧ ∀ i, i < n → P i (rth L i)
  | 0, _ => ⟨[], rfl, fun i hi => by omega⟩
  | n + 1, h => by
    obtain ⟨L, hl, hL⟩ := list_of n fun i hi => h i (by omega)
    obtain ⟨c, hc⟩ := h n (by omega)
    refine ⟨L ++ [c], by simp [hl], fun i hi => ?_⟩
    rcases (show i < n ∨ i = n from by omega) with e | e
    · have e1 : rth (L ++ [c]) i = rth L i := by unfold rth; rw [List.getD_eq_getElem?_getD, List.getD_eq_getElem?_getD, List.getElem?_append_left (by omega)]
      rw [e1]
      exact hL i e
    · subst e
      subst hl
      have e1 : rth (L ++ [c]) L.length = c := by unfold rth; rw [List.getD_eq_getElem?_getD, List.getElem?_append_right (Nat.le_refl _)]; simp
      rw [e1]
      exact hc

section
variable {H : Type} {enc : TypeId × Value → H} {P : Program} {w : World} {base : Nat} {spare : Nat → Bool} {held : Bool}
theorem open_slice_fields {t e : TypeId} {fs : Array Field} {fuel : Nat} {cs : List Value} {x : DataW H × List MemPlace} (ht : P.underlying t = some (.slice e)) (he : P.underlying e = some (.struct fs))
    (hone : oneCellFields P fs = true) (hC : P.cellsOf e = fs.size) (h : DataW.trod enc P w base spare held fuel t cs = some x) :
    (cs = [.slice none 0 0] ∧ x = (.nil, [])) ∨
    ∃ (a : Addr) (len cap m : Nat) (D : Nat → DataW H) (Pl : Nat → List MemPlace), cs = [.slice (some a) len cap] ∧ base ≤ a.block ∧ len ≤ cap ∧ cap ≤ maxLen ∧ m = (if spare a.block then cap else len) ∧
      x = (.slice ((List.range len).map D) ((List.range (m - len)).map fun j => D (len + j)), MemPlace.row a (m * fs.size) ++ (List.range m).flatMap Pl) ∧
      ∀ i, i < m → ∃ (ys : List (DataW H × List MemPlace)) (n : Nat), D i = .agg (ys.map (·.1)) ∧ Pl i = ys.flatMap (·.2) ∧ ys.length = fs.size ∧
        ∀ (j : Nat) (f : Field), fs[j]? = some f → ∃ (v : Value) (y : DataW H × List MemPlace), w.cell? (a.add (i * fs.size + j)) = some v ∧ ys[j]? = some y ∧ DataW.trod enc P w base spare held n f.type [v] = some y := by
  rcases open_slice ht h with h0 | ⟨a, len, cap, m, n, D, Pl, hcs, hb, hl, hm, hmm, hx, hi⟩
  · exact .inl h0
  · refine .inr ⟨a, len, cap, m, D, Pl, hcs, hb, hl, hm, hmm, by rw [hC] at hx; exact hx, fun i him => ?_⟩
    obtain ⟨cs', hc, ht'⟩ := hi i him
    rw [hC] at hc
    obtain ⟨ys, n', hn', hy, hlen, hyl, hf⟩ := DataW.trod_struct he ht'
    obtain ⟨_, hcl, hat⟩ := World.cells?_some hc
    simp only [Prod.mk.injEq] at hy
    refine ⟨ys, n', hy.1, hy.2, hyl, fun j f hj => ?_⟩
    obtain ⟨ho, hk⟩ := hone_of hone j f hj
    have hjl : j < fs.size := (Array.getElem?_eq_some_iff.1 hj).1
    have hcell := hat j hjl
    have hv : cs'[j]? = some (cs'[j]'(by omega)) := List.getElem?_eq_getElem (by omega)
    have h1 := hf j f hj
    rw [ho, hk] at h1
    have hone' : (cs'.drop j).take 1 = [cs'[j]'(by omega)] := by
      rw [List.drop_eq_getElem_cons (by omega)]
      rfl
    rw [hone'] at h1
    have hys : ys[j]? = some (ys[j]'(by omega)) := List.getElem?_eq_getElem (by omega)
    refine ⟨_, _, ?_, hys, h1.trans hys⟩
    rw [← Go.Deep.add_add, hcell, hv]
end

theorem cell_lt {w : World} {p : Addr} {v : Value} (h : w.cell? p = some v) : p.block < w.heap.size := World.block_lt_of_cell? w p h

section
variable {H : Type} {enc : TypeId × Value → H} {P : Program} {w : World}
theorem rng_open {t e ti : TypeId} {f0 f1 : Field} {fuel : Nat} {cs : List Value} {x : DataW H × List MemPlace} (ht : P.underlying t = some (.slice e)) (he : P.underlying e = some (.struct #[f0, f1]))
    (hone : oneCellFields P #[f0, f1] = true) (hC : P.cellsOf e = 2) (t0 : f0.type = ti) (t1 : f1.type = ti) (hi : P.underlying ti = some (.int .i64))
    (h : DataW.trod enc P w 0 (fun _ => true) true fuel t cs = some x) : ∃ a len cap L, cs = [.slice a len cap] ∧ len ≤ maxLen ∧ RngAt w a len L ∧ (a = none → cap = 0) := by
  rcases open_slice_fields ht he hone hC h with ⟨hcs, _⟩ | ⟨x, l, c, m, D, Pl, hcs, _, hl, hm, hmm, _, hrow⟩
  · exact ⟨none, 0, 0, [], hcs, by unfold maxLen; omega, RngAt.nil _ _, fun _ => rfl⟩
  · have hmc : m = c := by simpa using hmm
    have key : ∀ i, i < l → ∃ c : Rg, w.cell? (x.add (i * 2)) = some (.int .i64 c.lo) ∧ w.cell? (x.add (i * 2 + 1)) = some (.int .i64 c.hi) := by
      intro i hi'
      obtain ⟨ys, n', _, _, _, hg⟩ := hrow i (by omega)
      obtain ⟨v0, y0, c0, _, e0⟩ := hg 0 f0 rfl
      obtain ⟨v1, y1, c1, _, e1⟩ := hg 1 f1 rfl
      rw [t0] at e0
      rw [t1] at e1
      obtain ⟨a0, q0, _, _⟩ := DataW.trod_int hi e0
      obtain ⟨a1, q1, _, _⟩ := DataW.trod_int hi e1
      simp at q0 q1
      subst q0 q1
      exact ⟨⟨a0, a1⟩, c0, c1⟩
    obtain ⟨L, hL, hLc⟩ := list_of l key
    refine ⟨some x, l, c, L, hcs, Nat.le_trans hl hm, ⟨hL, fun hn => ?_⟩, fun e => by cases e⟩
    have h0 := hLc 0 hn
    obtain ⟨b, off, spot⟩ := x
    have hspot : spot = none := by simpa [Addr.add] using World.cell?_spot h0.1
    subst hspot
    refine ⟨b, off, rfl, ?_, fun i hi' => ?_⟩
    · have := cell_lt h0.1
      rw [Addr.add_lit] at this
      exact this
    · obtain ⟨c0, c1⟩ := hLc i hi'
      rw [Addr.add_lit] at c0 c1
      exact ⟨c0, c1⟩

theorem send_open {r : Reach} {b0 : Nat} {t ts tb ti tr e : TypeId} {f0 f1 f2 f3 f4 f5 g0 g1 : Field} {v : Value} {d : DataW H} {p : List MemPlace} (hs : P.underlying t = some (.struct #[f0, f1, f2, f3, f4, f5])) (hone : oneCellFields P #[f0, f1, f2, f3, f4, f5] = true) (hC : P.cellsOf t = 6)
    (t0 : f0.type = ts) (t1 : f1.type = tb) (t2 : f2.type = ti) (t3 : f3.type = ti) (t4 : f4.type = tr) (t5 : f5.type = tr) (hts : P.underlying ts = some .string) (htb : P.underlying tb = some .bool) (hti : P.underlying ti = some (.int .i64)) (htr : P.underlying tr = some (.slice e))
    (he : P.underlying e = some (.struct #[g0, g1])) (hone' : oneCellFields P #[g0, g1] = true) (hC' : P.cellsOf e = 2) (s0 : g0.type = ti) (s1 : g1.type = ti)
    (hv : Value.okWide P w r b0 t v) (h : DataW.Trod enc P w 0 (fun _ => true) true t v d p) :
    ∃ (d : ByteArray) (f : Bool) (l n : Int) (LA LB : List Rg) (A : Option Addr) (ca : Nat) (B : Option Addr) (cb : Nat), v = .agg #[.string d, .bool f, .int .i64 l, .int .i64 n, .slice A LA.length ca, .slice B LB.length cb] ∧
      d.size ≤ maxLen ∧ LA.length ≤ maxLen ∧ LB.length ≤ maxLen ∧ RngAt w A LA.length LA ∧ RngAt w B LB.length LB ∧ (A = none → ca = 0) ∧ (B = none → cb = 0) := by
  obtain ⟨cs, rfl, hsz⟩ := okWide_struct hs hv
  obtain ⟨l⟩ := cs
  match l, hsz.trans hC with
  | [c0, c1, c2, c3, c4, c5], _ =>
    obtain ⟨fuel, hf⟩ := h
    obtain ⟨xs, n, _, hx, _, hlen, hg⟩ := DataW.trod_struct hs hf
    obtain ⟨o0, k0⟩ := hone_of hone 0 f0 rfl
    obtain ⟨o1, k1⟩ := hone_of hone 1 f1 rfl
    obtain ⟨o2, k2⟩ := hone_of hone 2 f2 rfl
    obtain ⟨o3, k3⟩ := hone_of hone 3 f3 rfl
    obtain ⟨o4, k4⟩ := hone_of hone 4 f4 rfl
    obtain ⟨o5, k5⟩ := hone_of hone 5 f5 rfl
    match xs, hlen with
    | [y0, y1, y2, y3, y4, y5], _ =>
      have e0 : DataW.trod enc P w 0 (fun _ => true) true n f0.type [c0] = some y0 := by simpa [Value.cells, o0, k0] using hg 0 f0 rfl
      have e1 : DataW.trod enc P w 0 (fun _ => true) true n f1.type [c1] = some y1 := by simpa [Value.cells, o1, k1] using hg 1 f1 rfl
      have e2 : DataW.trod enc P w 0 (fun _ => true) true n f2.type [c2] = some y2 := by simpa [Value.cells, o2, k2] using hg 2 f2 rfl
      have e3 : DataW.trod enc P w 0 (fun _ => true) true n f3.type [c3] = some y3 := by simpa [Value.cells, o3, k3] using hg 3 f3 rfl
      have e4 : DataW.trod enc P w 0 (fun _ => true) true n f4.type [c4] = some y4 := by simpa [Value.cells, o4, k4] using hg 4 f4 rfl
      have e5 : DataW.trod enc P w 0 (fun _ => true) true n f5.type [c5] = some y5 := by simpa [Value.cells, o5, k5] using hg 5 f5 rfl
      rw [t0] at e0
      rw [t1] at e1
      rw [t2] at e2
      rw [t3] at e3
      rw [t4] at e4
      rw [t5] at e5
      obtain ⟨a0, q0, _, hd⟩ := DataW.trod_string hts e0
      obtain ⟨a1, q1, _⟩ := DataW.trod_bool htb e1
      obtain ⟨a2, q2, _, _⟩ := DataW.trod_int hti e2
      obtain ⟨a3, q3, _, _⟩ := DataW.trod_int hti e3
      obtain ⟨A, na, ca, LA, q4, m4, r4, z4⟩ := rng_open htr he hone' hC' s0 s1 hti e4
      obtain ⟨B, nb, cb, LB, q5, m5, r5, z5⟩ := rng_open htr he hone' hC' s0 s1 hti e5
      simp at q0 q1 q2 q3 q4 q5
      subst q0 q1 q2 q3 q4 q5
      obtain rfl := r4.1
      obtain rfl := r5.1
      exact ⟨a0, a1, a2, a3, LA, LB, A, ca, B, cb, rfl, hd, m4, m5, r4, r5, z4, z5⟩

theorem part_open {r : Reach} {b0 : Nat} {t ts tb ti : TypeId} {f0 f1 f2 : Field} {v : Value} {d : DataW H} {p : List MemPlace} (hs : P.underlying t = some (.struct #[f0, f1, f2])) (hone : oneCellFields P #[f0, f1, f2] = true) (hC : P.cellsOf t = 3)
    (t0 : f0.type = ti) (t1 : f1.type = ts) (t2 : f2.type = tb) (hts : P.underlying ts = some .string) (htb : P.underlying tb = some .bool) (hti : P.underlying ti = some (.int .i64))
    (hv : Value.okWide P w r b0 t v) (h : DataW.Trod enc P w 0 (fun _ => true) true t v d p) :
    ∃ (o : Int) (d : ByteArray) (f : Bool), v = .agg #[.int .i64 o, .string d, .bool f] ∧ d.size ≤ maxLen := by
  obtain ⟨cs, rfl, hsz⟩ := okWide_struct hs hv
  obtain ⟨l⟩ := cs
  match l, hsz.trans hC with
  | [c0, c1, c2], _ =>
    obtain ⟨fuel, hf⟩ := h
    obtain ⟨xs, n, _, hx, _, hlen, hg⟩ := DataW.trod_struct hs hf
    obtain ⟨o0, k0⟩ := hone_of hone 0 f0 rfl
    obtain ⟨o1, k1⟩ := hone_of hone 1 f1 rfl
    obtain ⟨o2, k2⟩ := hone_of hone 2 f2 rfl
    match xs, hlen with
    | [y0, y1, y2], _ =>
      have e0 : DataW.trod enc P w 0 (fun _ => true) true n f0.type [c0] = some y0 := by simpa [Value.cells, o0, k0] using hg 0 f0 rfl
      have e1 : DataW.trod enc P w 0 (fun _ => true) true n f1.type [c1] = some y1 := by simpa [Value.cells, o1, k1] using hg 1 f1 rfl
      have e2 : DataW.trod enc P w 0 (fun _ => true) true n f2.type [c2] = some y2 := by simpa [Value.cells, o2, k2] using hg 2 f2 rfl
      rw [t0] at e0
      rw [t1] at e1
      rw [t2] at e2
      obtain ⟨a0, q0, _, _⟩ := DataW.trod_int hti e0
      obtain ⟨a1, q1, _, hd⟩ := DataW.trod_string hts e1
      obtain ⟨a2, q2, _⟩ := DataW.trod_bool htb e2
      simp at q0 q1 q2
      subst q0 q1 q2
      exact ⟨a0, a1, a2, rfl, hd⟩
end

end Go.Proofs.Ytmkmaeblnnfheab
