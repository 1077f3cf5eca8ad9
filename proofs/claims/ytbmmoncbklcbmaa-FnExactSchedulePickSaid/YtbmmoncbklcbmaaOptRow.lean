/- For the rows: a slice of options that came in, opened to its cells. -/
import Derived.Test.YtbmmoncbklcbmaaRowKit
import Derived.Test.YtbmmoncbklcbmaaOptMem
import Derived.Deep.Slices
import Derived.Deep.Fields
import Derived.ChangeSame
namespace Go.Proofs.Ytbmmoncbklcbmaa
open Go.ChangeShapes Go.WideShapes Go.ChangeAt Go.RowKit Go.Joins Go.Deep

theorem list_of {P : Nat → Opt → Prop} : ∀ n : Nat, (∀ i, i < n → ∃ c, P i c) → ∃ L : List Opt, L.length = n ∧ ∀ i, i < n → P i (onth L i)
  | 0, _ => ⟨[], rfl, fun i hi => by omega⟩
  | n + 1, h => by
    obtain ⟨L, hl, hL⟩ := list_of n fun i hi => h i (by omega)
    obtain ⟨c, hc⟩ := h n (by omega)
    refine ⟨L ++ [c], by simp [hl], fun i hi => ?_⟩
    rcases (show i < n ∨ i = n from by omega) with e | e
    · have e1 : onth (L ++ [c]) i = onth L i := by unfold onth; rw [List.getD_eq_getElem?_getD, List.getD_eq_getElem?_getD, List.getElem?_append_left (by omega)]
      rw [e1]
      exact hL i e
    · subst e
      subst hl
      have e1 : onth (L ++ [c]) L.length = c := by unfold onth; rw [List.getD_eq_getElem?_getD, List.getElem?_append_right (Nat.le_refl _)]; simp
      rw [e1]
      exact hc

section
variable {H : Type} {enc : TypeId × Value → H} {P : Program} {w : World} {base : Nat} {spare : Nat → Bool} {held : Bool}
theorem open_slice_fields {t e : TypeId} {fs : Array Field} {fuel : Nat} {cs : List Value} {x : DataW H × List MemPlace} (ht : P.underlying t = some (.slice e)) (he : P.underlying e = some (.struct fs))
    (hone : oneCellFields P fs = true) (hC : P.cellsOf e = fs.size) (h : DataW.trod enc P w base spare held fuel t cs = some x) :
    (cs = [.slice none 0 0] ∧ x = (.nil, [])) ∨
    ∃ (a : Addr) (len cap m : Nat) (D : Nat → DataW H) (Pl : Nat → List MemPlace), cs = [.slice (some a) len cap] ∧ base ≤ a.block ∧ len ≤ cap ∧ cap ≤ maxLen ∧ m = (if spare a.block then cap else len) ∧
      x = (.slice ((List.range len).map D) ((List.range (m - len)).map fun j => D (len + j)), MemPlace.row a (m * fs.size) ++ (List.range m).flatMap Pl) ∧
      ∀ i, i < m → ∃ (ys : List (DataW H × List MemPlace)) (n : Nat), D i = .agg (ys.map (·.1)) ∧ Pl i = ys.flatMap (·.2) ∧ ys.length = fs.size ∧
        ∀ (j : Nat) (f : Field), fs[j]? = some f → ∃ (v : Value) (y : DataW H × List MemPlace), w.cell? (a.add (i * fs.size + j)) = some v ∧ ys[j]? = some y ∧ DataW.trod enc P w base spare held n f.type [v] = some y := by
  rcases open_slice ht h with h0 | ⟨a, len, cap, m, n, D, Pl, hcs, hb, hl, hm, hmm, hx, hi⟩
  · exact .inl h0
  · refine .inr ⟨a, len, cap, m, D, Pl, hcs, hb, hl, hm, hmm, by rw [hC] at hx; exact hx, fun i him => ?_⟩
    obtain ⟨cs', hc, ht'⟩ := hi i him
    rw [hC] at hc
    obtain ⟨ys, n', hn', hy, hlen, hyl, hf⟩ := DataW.trod_struct he ht'
    obtain ⟨_, hcl, hat⟩ := World.cells?_some hc
    simp only [Prod.mk.injEq] at hy
    refine ⟨ys, n', hy.1, hy.2, hyl, fun j f hj => ?_⟩
    obtain ⟨ho, hk⟩ := hone_of hone j f hj
    have hjl : j < fs.size := (Array.getElem?_eq_some_iff.1 hj).1
    have hcell := hat j hjl
    have hv : cs'[j]? = some (cs'[j]'(by omega)) := List.getElem?_eq_getElem (by omega)
    have h1 := hf j f hj
    rw [ho, hk] at h1
    have hone' : (cs'.drop j).take 1 = [cs'[j]'(by omega)] := by
      rw [List.drop_eq_getElem_cons (by omega)]
      rfl
    rw [hone'] at h1
    have hys : ys[j]? = some (ys[j]'(by omega)) := List.getElem?_eq_getElem (by omega)
    refine ⟨_, _, ?_, hys, h1.trans hys⟩
    rw [← Go.Deep.add_add, hcell, hv]
end

theorem cell_lt {w : World} {p : Addr} {v : Value} (h : w.cell? p = some v) : p.block < w.heap.size := World.block_lt_of_cell? w p h

section
variable {H : Type} {enc : TypeId × Value → H} {P : Program} {w : World}
theorem lawOpts_open {t e ti tb : TypeId} {f0 f1 f2 f3 : Field} {d : DataW H} {p : List MemPlace} {a : Option Addr} {len cap : Nat} (ht : P.underlying t = some (.slice e)) (he : P.underlying e = some (.struct #[f0, f1, f2, f3]))
    (hone : oneCellFields P #[f0, f1, f2, f3] = true) (hC : P.cellsOf e = 4) (t0 : f0.type = tb) (t1 : f1.type = ti) (t2 : f2.type = ti) (t3 : f3.type = ti) (hi : P.underlying ti = some (.int .i64)) (hb : P.underlying tb = some .bool)
    (h : DataW.Trod enc P w 0 (fun _ => true) true t (.slice a len cap) d p) : len ≤ maxLen ∧ ∃ L, OptsAt w a len L := by
  obtain ⟨fuel, hf⟩ := h
  rcases open_slice_fields ht he hone hC hf with ⟨hcs, _⟩ | ⟨x, l, c, m, D, Pl, hcs, _, hl, hm, hmm, _, hrow⟩
  · simp [Value.cells] at hcs
    obtain ⟨rfl, rfl, rfl⟩ := hcs
    exact ⟨by unfold maxLen; omega, [], rfl, fun h0 => by omega⟩
  · simp [Value.cells] at hcs
    obtain ⟨rfl, rfl, rfl⟩ := hcs
    refine ⟨Nat.le_trans hl hm, ?_⟩
    have hmc : m = cap := by simpa using hmm
    have key : ∀ i, i < len → ∃ c : Opt, w.cell? (x.add (i * 4)) = some (.bool c.a) ∧ w.cell? (x.add (i * 4 + 1)) = some (.int .i64 c.t) ∧ w.cell? (x.add (i * 4 + 2)) = some (.int .i64 c.w) ∧ w.cell? (x.add (i * 4 + 3)) = some (.int .i64 c.f) := by
      intro i hi'
      obtain ⟨ys, n', _, _, _, hg⟩ := hrow i (by omega)
      obtain ⟨v0, y0, c0, _, e0⟩ := hg 0 f0 rfl
      obtain ⟨v1, y1, c1, _, e1⟩ := hg 1 f1 rfl
      obtain ⟨v2, y2, c2, _, e2⟩ := hg 2 f2 rfl
      obtain ⟨v3, y3, c3, _, e3⟩ := hg 3 f3 rfl
      rw [t0] at e0
      rw [t1] at e1
      rw [t2] at e2
      rw [t3] at e3
      obtain ⟨a0, q0, _⟩ := DataW.trod_bool hb e0
      obtain ⟨a1, q1, _, _⟩ := DataW.trod_int hi e1
      obtain ⟨a2, q2, _, _⟩ := DataW.trod_int hi e2
      obtain ⟨a3, q3, _, _⟩ := DataW.trod_int hi e3
      simp at q0 q1 q2 q3
      subst q0 q1 q2 q3
      exact ⟨⟨a0, a1, a2, a3⟩, c0, c1, c2, c3⟩
    obtain ⟨L, hL, hLc⟩ := list_of len key
    refine ⟨L, hL, fun hn => ?_⟩
    have h0 := hLc 0 hn
    obtain ⟨b, off, spot⟩ := x
    have hspot : spot = none := by simpa [Addr.add] using World.cell?_spot h0.1
    subst hspot
    refine ⟨b, off, rfl, ?_, fun i hi' => ?_⟩
    · have := cell_lt h0.1
      rw [Addr.add_lit] at this
      exact this
    · obtain ⟨c0, c1, c2, c3⟩ := hLc i hi'
      rw [Addr.add_lit] at c0 c1 c2 c3
      exact ⟨c0, c1, c2, c3⟩
end

end Go.Proofs.Ytbmmoncbklcbmaa
