/- What was received of one text: the pieces are the stretches of a set of positions. A further stretch is put among them as a range among ranges. Plain. -/
import Derived.Test.YtmkmaeblnnfheaaPcMem
import Derived.Test.YtmkmaeblnnfheaaMg1
import Derived.Test.YtmkmaeblnnfheaaMg5
namespace Go.Proofs.Ytmkmaeblnnfheaa
open Go.RowKit

/-- The piece of a text at a range of positions. -/
def pce (D : ByteArray) (r : Rg) : Pc := ⟨r.lo, D.extract r.lo.toNat (r.hi + 1).toNat⟩
def pcs (D : ByteArray) (L : List Rg) : List Pc := L.map (pce D)
theorem pcs_len {D : ByteArray} {L : List Rg} : (pcs D L).length = L.length := by unfold pcs; rw [List.length_map]
theorem pcs_append {D : ByteArray} {L M : List Rg} : pcs D (L ++ M) = pcs D L ++ pcs D M := by unfold pcs; rw [List.map_append]
theorem pcs_drop {D : ByteArray} {L : List Rg} {k : Nat} : (pcs D L).drop k = pcs D (L.drop k) := by unfold pcs; rw [List.map_drop]
theorem pcs_th {D : ByteArray} {L : List Rg} {i : Nat} (h : i < L.length) : qth (pcs D L) i = pce D (rth L i) := by
  rw [qth_eq (by rw [pcs_len]; exact h), rth_eq h]
  unfold pcs
  rw [List.getElem_map]
/-- The ranges lie in the text. -/
structure Rx (D : ByteArray) (L : List Rg) : Prop where
  len : D.size ≤ 30
  c : Canon L
  b : ∀ r, r ∈ L → 0 ≤ r.lo ∧ r.hi < D.size
theorem Rx.at_ {D : ByteArray} {L : List Rg} (h : Rx D L) {i : Nat} (hi : i < L.length) : 0 ≤ (rth L i).lo ∧ (rth L i).lo ≤ (rth L i).hi ∧ (rth L i).hi < D.size :=
  ⟨(h.b _ (rth_mem hi)).1, h.c.1 _ (rth_mem hi), (h.b _ (rth_mem hi)).2⟩
theorem Rx.few {D : ByteArray} {L : List Rg} (h : Rx D L) : L.length ≤ 16 :=
  have h1 := h.len
  canon_few16 h.c (N := D.size) (fun r hr => h.b r hr) (by omega)
theorem pce_size {D : ByteArray} {r : Rg} (h0 : 0 ≤ r.lo) (h1 : r.lo ≤ r.hi) (h2 : r.hi < D.size) : ((pce D r).d.size : Int) = r.hi + 1 - r.lo := by
  unfold pce
  dsimp only
  rw [ByteArray.size_extract]
  omega
theorem Rx.add {D : ByteArray} {L : List Rg} (h : Rx D L) {lo hi : Int} (h0 : 0 ≤ lo) (h1 : lo ≤ hi) (h2 : hi < D.size) : Rx D (add L lo hi) := by
  have hc := canon_add h.c h1
  have hm : ∀ i, memB (Go.Proofs.Ytmkmaeblnnfheaa.add L lo hi) i = true → 0 ≤ i ∧ i < D.size := fun i hi' => by
    rw [mem_add h.c h1, Bool.or_eq_true, decide_eq_true_eq] at hi'
    rcases hi' with e | e
    · omega
    · obtain ⟨r, hr, e1, e2⟩ := memB_iff.1 e
      have := h.b r hr
      omega
  exact ⟨h.len, hc, fun r hr => ⟨(hm _ (mem_lo hc hr)).1, (hm _ (mem_hi hc hr)).2⟩⟩
/-- Where what was received ends; R where nothing waits. -/
def endOf (R : Int) (L : List Rg) : Int := if L.length = 0 then R else (rth L (L.length - 1)).hi + 1
theorem endOf_le {D : ByteArray} {L : List Rg} (h : Rx D L) : 0 ≤ endOf 0 L ∧ endOf 0 L ≤ D.size := by
  unfold endOf
  by_cases e : L.length = 0
  · rw [if_pos e]; omega
  · rw [if_neg e]
    have := h.at_ (i := L.length - 1) (by omega)
    omega

/-- Stretches of a text that meet are one. -/
theorem ext_join {D : ByteArray} {a b c : Int} (h1 : a ≤ b) (h2 : b ≤ c) : D.extract a.toNat b.toNat ++ D.extract b.toNat c.toNat = D.extract a.toNat c.toNat := by
  rw [ByteArray.extract_append_extract]
  congr 1 <;> omega
theorem ext_pre {D : ByteArray} {a b m : Int} (h0 : 0 ≤ a) (h1 : a ≤ m) (h2 : m ≤ b) : (D.extract a.toNat b.toNat).extract 0 (m - a).toNat = D.extract a.toNat m.toNat := by
  rw [ByteArray.extract_extract]
  congr 1 <;> omega
theorem ext_post {D : ByteArray} {a b m : Int} (h0 : 0 ≤ a) (h1 : a ≤ m) (h2 : m ≤ b) (h3 : b ≤ D.size) : (D.extract a.toNat b.toNat).extract (m - a).toNat (D.extract a.toNat b.toNat).size = D.extract m.toNat b.toNat := by
  rw [ByteArray.extract_extract, ByteArray.size_extract]
  congr 1 <;> omega
/-- Both merges of a stretch with one that it meets: what lies ahead, what lies behind. -/
theorem merge_front {D : ByteArray} {lo hi : Int} {r : Rg} (hr : 0 ≤ r.lo) (h1 : r.lo < lo) (h2 : lo ≤ r.hi + 1) (h3 : lo ≤ hi) :
    (D.extract r.lo.toNat (r.hi + 1).toNat).extract 0 (lo - r.lo).toNat ++ D.extract lo.toNat (hi + 1).toNat = D.extract r.lo.toNat (hi + 1).toNat := by
  rw [ext_pre hr (by omega) h2, ext_join (by omega) (by omega)]
theorem merge_back {D : ByteArray} {lo hi : Int} {r : Rg} (h1 : hi < r.hi) (h2 : r.lo ≤ hi + 1) (h3 : lo ≤ hi) (hr : 0 ≤ r.lo) (hb : r.hi < D.size) :
    D.extract lo.toNat (hi + 1).toNat ++ (D.extract r.lo.toNat (r.hi + 1).toNat).extract (hi + 1 - r.lo).toNat (D.extract r.lo.toNat (r.hi + 1).toNat).size = D.extract lo.toNat (r.hi + 1).toNat := by
  rw [ext_post hr h2 (by omega) (by omega), ext_join (by omega) (by omega)]

/-- Positions 0 to m, all of them: one stretch. -/
theorem full_one {D : ByteArray} {L : List Rg} (h : Rx D L) (hpos : 0 < D.size) (hm : ∀ i : Int, 0 ≤ i → i < D.size → memB L i = true) : L = [⟨0, D.size - 1⟩] := by
  refine canon_unique _ _ h.c (canon_cons.2 ⟨by dsimp only; omega, fun _ hb => (by cases hb), canon_nil⟩) fun n => ?_
  rw [memB_cons, memB_nil, Bool.or_false]
  unfold inB
  rw [Bool.eq_iff_iff, decide_eq_true_iff]
  dsimp only
  constructor
  · intro e
    obtain ⟨r, hr, e1, e2⟩ := memB_iff.1 e
    have := h.b r hr
    omega
  · intro e
    exact hm n e.1 (by omega)

end Go.Proofs.Ytmkmaeblnnfheaa
