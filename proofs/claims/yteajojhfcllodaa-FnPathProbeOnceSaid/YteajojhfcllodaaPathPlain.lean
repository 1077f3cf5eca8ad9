/- Plain facts on a path (five integers): which paths are valid, and what each operation makes of a path. No program in sight. -/
import Derived.WalkKit
import Derived.Lib.Hide
namespace Go.Proofs.Yteajojhfcllodaa
open Go.RowKit

/-- A path with state s, token t, r received bytes, x sent bytes and deadline d is valid. -/
def Ok (s t r x d : Int) : Prop :=
  (0 ≤ s ∧ s ≤ 4) ∧ (0 ≤ t ∧ t ≤ 9999) ∧ (0 ≤ r ∧ r ≤ 9999) ∧ (0 ≤ x ∧ x ≤ 9999) ∧
    ((s = 0 ∧ t = 0 ∧ x = 0 ∧ d = 0) ∨ (s = 1 ∧ x ≤ 3 * r ∧ 1 ≤ d ∧ d ≤ 1998) ∨ (s = 3 ∧ x ≤ 3 * r ∧ d = 0) ∨ (s = 2 ∧ d = 0) ∨ (s = 4 ∧ d = 0))

def okB (s t r x d : Int) : Bool :=
  decide ((0 ≤ s ∧ s ≤ 4) ∧ (0 ≤ t ∧ t ≤ 9999) ∧ (0 ≤ r ∧ r ≤ 9999) ∧ (0 ≤ x ∧ x ≤ 9999) ∧
    ((s = 0 ∧ t = 0 ∧ x = 0 ∧ d = 0) ∨ (s = 1 ∧ x ≤ 3 * r ∧ 1 ≤ d ∧ d ≤ 1998) ∨ (s = 3 ∧ x ≤ 3 * r ∧ d = 0) ∨ (s = 2 ∧ d = 0) ∨ (s = 4 ∧ d = 0)))

theorem okB_iff {s t r x d : Int} : okB s t r x d = true ↔ Ok s t r x d := by unfold okB Ok; exact decide_eq_true_iff
theorem okB_true {s t r x d : Int} (h : Ok s t r x d) : okB s t r x d = true := okB_iff.2 h
theorem okB_false {s t r x d : Int} (h : ¬ Ok s t r x d) : okB s t r x d = false := by
  cases hb : okB s t r x d with
  | false => rfl
  | true => exact absurd (okB_iff.1 hb) h
theorem ok_of {s t r x d : Int} (h : okB s t r x d = true) : Ok s t r x d := okB_iff.1 h
theorem not_ok_of {s t r x d : Int} (h : okB s t r x d = false) : ¬ Ok s t r x d := fun hk => by rw [okB_true hk] at h; cases h

theorem eq_okB {b : Bool} {s t r x d : Int} (h1 : b = true → Ok s t r x d) (h2 : Ok s t r x d → b = true) : b = okB s t r x d := by
  rw [Bool.eq_iff_iff, okB_iff]
  exact ⟨h1, h2⟩

theorem ret_bool {a b : Bool} (h : a = b) : Ending.returned (.bool a) = .returned (.bool b) := by rw [h]
theorem ret_int {a b : Int} (h : a = b) : Ending.returned (.int .i64 a) = .returned (.int .i64 b) := by rw [h]

/-- A path: state, token, received bytes, sent bytes, deadline. -/
structure Pth where
  s : Int
  t : Int
  r : Int
  x : Int
  d : Int

def pzero : Pth := ⟨0, 0, 0, 0, 0⟩
def okP (p : Pth) : Bool := okB p.s p.t p.r p.x p.d

def probe (p : Pth) (tok now tmo : Int) : Pth × Bool :=
  if okP p = true ∧ (0 ≤ tok ∧ tok ≤ 9999) ∧ (0 ≤ now ∧ now ≤ 999) ∧ (1 ≤ tmo ∧ tmo ≤ 999) then
    if p.s = 0 then (⟨1, tok, p.r, 0, now + tmo⟩, true) else (p, false)
  else (pzero, false)

def answer (p : Pth) (tok : Int) : Pth × Bool :=
  if okP p = true ∧ (0 ≤ tok ∧ tok ≤ 9999) then
    if p.s = 1 ∧ p.t = tok then (⟨2, p.t, p.r, p.x, 0⟩, true) else (p, false)
  else (pzero, false)

def tick (p : Pth) (now : Int) : Pth :=
  if okP p = true ∧ (0 ≤ now ∧ now ≤ 999) then
    if p.s = 1 ∧ p.d ≤ now then ⟨3, p.t, p.r, p.x, 0⟩ else p
  else pzero

def receive (p : Pth) (size : Int) : Pth × Bool :=
  if okP p = true ∧ (1 ≤ size ∧ size ≤ 99) then
    if p.s = 4 ∨ 9999 < p.r + size then (p, false) else (⟨p.s, p.t, p.r + size, p.x, p.d⟩, true)
  else (pzero, false)

def allow (r x : Int) (v : Bool) : Int :=
  if (0 ≤ r ∧ r ≤ 9999) ∧ (0 ≤ x ∧ x ≤ 9999) then
    if v = true then 9999 - x else min (max 0 (3 * r - x)) (9999 - x)
  else 0

def send (p : Pth) (size : Int) : Pth × Bool :=
  if okP p = true ∧ (1 ≤ size ∧ size ≤ 99) then
    if (p.s = 1 ∨ p.s = 2) ∧ size ≤ allow p.r p.x (p.s == 2) then (⟨p.s, p.t, p.r, p.x + size, p.d⟩, true) else (p, false)
  else (pzero, false)

def close (p : Pth) : Pth :=
  if okP p = true then ⟨4, p.t, p.r, p.x, 0⟩ else pzero

end Go.Proofs.Yteajojhfcllodaa
