/- Plain facts on connection identifiers (a value, a path, a mark): which lists are valid, and what each operation makes of a list. No program in sight. -/
import Derived.WalkKit
import Derived.Lib.Hide
namespace Go.Proofs.Ytobeeakjfkokfab
open Go.RowKit

/-- A connection identifier: value, path, retired. -/
structure Cid where
  v : Int
  p : Int
  r : Bool

def nth (L : List Cid) (i : Nat) : Cid := L.getD i ⟨0, 0, false⟩
theorem nth_eq {L : List Cid} {i : Nat} (h : i < L.length) : nth L i = L[i] := by
  unfold nth
  rw [List.getD_eq_getElem?_getD, List.getElem?_eq_getElem h]
  rfl
theorem nth_mem {L : List Cid} {i : Nat} (h : i < L.length) : nth L i ∈ L := by rw [nth_eq h]; exact List.getElem_mem h

/-- In use on path p (unused at p = -1). -/
def onB (c : Cid) (p : Int) : Bool := !c.r && decide (c.p = p)
def rangeB (c : Cid) : Bool := decide ((0 ≤ c.v ∧ c.v ≤ 9999) ∧ (-1 ≤ c.p ∧ c.p ≤ 3))
def clashB (a b : Cid) : Bool := decide (b.v = a.v) || (!a.r && !b.r && decide (0 ≤ a.p) && decide (b.p = a.p))
/-- How many are not retired. -/
def act (L : List Cid) : Nat := L.countP (fun c => !c.r)
def okAt (L : List Cid) (i : Nat) : Bool := rangeB (nth L i) && (List.range i).all fun k => !clashB (nth L i) (nth L k)
def okI (L : List Cid) : Bool := (List.range L.length).all (okAt L) && decide (L.length ≤ 8) && decide (act L ≤ 4)

theorem okAt_iff {L : List Cid} {i : Nat} : okAt L i = true ↔ rangeB (nth L i) = true ∧ ∀ k, k < i → clashB (nth L i) (nth L k) = false := by
  unfold okAt
  simp
theorem okI_iff {L : List Cid} : okI L = true ↔ (∀ i, i < L.length → okAt L i = true) ∧ L.length ≤ 8 ∧ act L ≤ 4 := by
  unfold okI
  simp [and_assoc]
theorem okI_false_at {L : List Cid} {i : Nat} (hi : i < L.length) (h : okAt L i = false) : okI L = false := by
  cases hk : okI L with
  | false => rfl
  | true => rw [(okI_iff.1 hk).1 i hi] at h; cases h
theorem okAt_range {L : List Cid} {i : Nat} (h : rangeB (nth L i) = false) : okAt L i = false := by
  unfold okAt; rw [h]; rfl
theorem okAt_clash {L : List Cid} {i k : Nat} (hk : k < i) (h : clashB (nth L i) (nth L k) = true) : okAt L i = false := by
  cases hh : okAt L i with
  | false => rfl
  | true => rw [(okAt_iff.1 hh).2 k hk] at h; cases h

/-- The first place of which f holds, or -1. -/
def idx (f : Cid → Bool) (L : List Cid) : Int := match L.findIdx? f with
  | some i => i
  | none => -1
theorem idx_found {f : Cid → Bool} {L : List Cid} {i : Nat} (hi : i < L.length) (h : f (nth L i) = true) (hb : ∀ k, k < i → f (nth L k) = false) : idx f L = i := by
  unfold idx
  have : L.findIdx? f = some i := by
    rw [List.findIdx?_eq_some_iff_getElem]
    refine ⟨hi, by rw [← nth_eq hi]; exact h, fun j hj => ?_⟩
    rw [← nth_eq (show j < L.length by omega), hb j hj]
    simp
  rw [this]
theorem idx_none {f : Cid → Bool} {L : List Cid} (hb : ∀ k, k < L.length → f (nth L k) = false) : idx f L = -1 := by
  unfold idx
  have : L.findIdx? f = none := by
    rw [List.findIdx?_eq_none_iff]
    intro x hx
    obtain ⟨i, hi, rfl⟩ := List.mem_iff_getElem.1 hx
    rw [← nth_eq hi]
    exact hb i hi
  rw [this]
theorem idx_cases (f : Cid → Bool) (L : List Cid) : (idx f L = -1 ∧ ∀ k, k < L.length → f (nth L k) = false) ∨ (∃ i : Nat, i < L.length ∧ idx f L = i ∧ f (nth L i) = true ∧ ∀ k, k < i → f (nth L k) = false) := by
  cases h : L.findIdx? f with
  | none =>
    rw [List.findIdx?_eq_none_iff] at h
    have hb : ∀ k, k < L.length → f (nth L k) = false := fun k hk => h _ (nth_mem hk)
    exact .inl ⟨idx_none hb, hb⟩
  | some i =>
    rw [List.findIdx?_eq_some_iff_getElem] at h
    obtain ⟨hi, h1, h2⟩ := h
    have e1 : f (nth L i) = true := by rw [nth_eq hi]; exact h1
    have e2 : ∀ k, k < i → f (nth L k) = false := fun k hk => by
      rw [nth_eq (show k < L.length by omega)]
      have := h2 k hk
      simpa using this
    exact .inr ⟨i, hi, idx_found hi e1 e2, e1, e2⟩
def onIdx (L : List Cid) (p : Int) : Int := idx (fun c => onB c p) L

def issue (L : List Cid) (v : Int) : List Cid × Int × Bool :=
  if okI L = true ∧ (0 ≤ v ∧ v ≤ 9999) then
    if L.any (fun c => decide (c.v = v)) = true ∨ 8 ≤ L.length ∨ 4 ≤ act L then (L, -1, false) else (L ++ [⟨v, -1, false⟩], L.length, true)
  else ([], 0, false)
def onV (L : List Cid) (p : Int) : Int :=
  if okI L = true ∧ (0 ≤ p ∧ p ≤ 3) ∧ 0 ≤ onIdx L p then (nth L (onIdx L p).toNat).v else -1
def setP (L : List Cid) (k : Nat) (p : Int) : List Cid := L.set k { nth L k with p := p }
def setR (L : List Cid) (k : Nat) : List Cid := L.set k { nth L k with r := true }
def assign (L : List Cid) (p : Int) : List Cid × Int × Bool :=
  if okI L = true ∧ (0 ≤ p ∧ p ≤ 3) then
    if 0 ≤ onIdx L p ∨ onIdx L (-1) < 0 then (L, -1, false)
    else (setP L (onIdx L (-1)).toNat p, (nth L (onIdx L (-1)).toNat).v, true)
  else ([], 0, false)
def retire (L : List Cid) (s : Int) : List Cid × Bool :=
  if okI L = true then
    if ¬ (0 ≤ s ∧ s ≤ (L.length : Int) - 1) ∨ (nth L s.toNat).r = true then (L, false) else (setR L s.toNat, true)
  else ([], false)
def migrate (L : List Cid) (p : Int) : List Cid × Int × Bool :=
  if okI L = true ∧ (0 ≤ p ∧ p ≤ 3) then
    if onIdx L p < 0 ∨ onIdx L (-1) < 0 then (L, -1, false)
    else (setP (setR L (onIdx L p).toNat) (onIdx L (-1)).toNat p, (nth L (onIdx L (-1)).toNat).v, true)
  else ([], 0, false)

end Go.Proofs.Ytobeeakjfkokfab
