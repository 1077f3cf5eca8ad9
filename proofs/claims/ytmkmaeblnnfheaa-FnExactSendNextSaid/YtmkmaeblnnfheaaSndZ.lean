/- The program's SendNext: all ways. -/
import Derived.Test.YtmkmaeblnnfheaaSndQ
import Derived.Test.YtmkmaeblnnfheaaSndR
import Derived.Test.YtmkmaeblnnfheaaSndR2
import Derived.Test.YtmkmaeblnnfheaaSndR3
import Derived.Test.YtmkmaeblnnfheaaSndR4
import Derived.Test.YtmkmaeblnnfheaaSndY
import Derived.Test.YtmkmaeblnnfheaaSndY2
import Derived.Test.YtmkmaeblnnfheaaSndY3
namespace Go.Proofs.Ytmkmaeblnnfheaa
open Go.RowKit
attribute [local irreducible] Go.wpQuiet

theorem nextI_lost {s : Sd} {lo hi : Int} {T : List Rg} {k e : Int} {fin : Bool} (hL : s.L = ⟨lo, hi⟩ :: T) (he : max lo (min (min (hi + 1) (s.d.size : Int)) (lo + k)) = e) (hf : decide (hi = (s.d.size : Int) ∧ e = (s.d.size : Int) ∧ lo ≤ hi) = fin) (hne : ¬ (e = lo ∧ fin = false)) :
    nextI s k = ({ s with L := remove s.L lo (Pt.last ⟨lo, s.d.extract lo.toNat e.toNat, fin⟩) }, ⟨lo, s.d.extract lo.toNat e.toNat, fin⟩, true) := by
  unfold nextI
  rw [hL]
  dsimp only
  rw [he, hf, if_neg hne]
theorem nextI_new {s : Sd} {k e : Int} {fin : Bool} (hL : s.L = []) (he : max s.n (min (min (min (s.pos - 1 + 1) (s.d.size : Int)) s.l) (s.n + k)) = e) (hf : decide (s.pos - 1 = (s.d.size : Int) ∧ e = (s.d.size : Int) ∧ s.n ≤ s.pos - 1) = fin) (hne : ¬ (e = s.n ∧ fin = false)) :
    nextI s k = ({ s with n := Pt.last ⟨s.n, s.d.extract s.n.toNat e.toNat, fin⟩ + 1 }, ⟨s.n, s.d.extract s.n.toNat e.toNat, fin⟩, true) := by
  unfold nextI
  rw [hL]
  dsimp only
  rw [he, hf, if_neg hne]
theorem nextI_none {s : Sd} {k e : Int} (hL : s.L = []) (he : max s.n (min (min (min (s.pos - 1 + 1) (s.d.size : Int)) s.l) (s.n + k)) = e) (hf : decide (s.pos - 1 = (s.d.size : Int) ∧ e = (s.d.size : Int) ∧ s.n ≤ s.pos - 1) = false) (hne : e = s.n) :
    nextI s k = (s, pt0, false) := by
  unfold nextI
  rw [hL]
  dsimp only
  rw [he, hf, if_pos ⟨hne, rfl⟩]
theorem beq_t {a b : Int} (h : a = b) : (a == b) = true := by rw [h]; exact beq_self_eq_true b
theorem beq_f {a b : Int} (h : ¬ a = b) : (a == b) = false := beq_eq_false_iff_ne.2 h

theorem snext_i_lost (d : ByteArray) (f : Bool) (l n : Int) (LA LB : List Rg) (A : Option Addr) (ca : Nat) (B : Option Addr) (cb : Nat) (k : Int) (w : World) (hA : RngAt w A LA.length LA) (hB : RngAt w B LB.length LB) (eA : A = none → ca = 0) (eB : B = none → cb = 0) (hn : LA.length ≤ 2000000) (hn' : LB.length ≤ 2000000) (HV : Hid (okS ⟨d, f, l, n, LA, LB⟩ = true)) (HC : Hid (decide (1 ≤ k ∧ k ≤ 12) = true)) (lo hi : Int) (T : List Rg) (hL : LB = ⟨lo, hi⟩ :: T) :
    Calls Try.prog 23 #[.agg #[.string d, .bool f, .int .i64 l, .int .i64 n, .slice A LA.length ca, .slice B LB.length cb], .int .i64 k] w (GotNext w (nextI ⟨d, f, l, n, LA, LB⟩ k)) := by
  have hk := of_decide_eq_true HC.out
  have hlo := (okS_iff.1 HV.out).lost (r := ⟨lo, hi⟩) (by show _ ∈ LB; rw [hL]; exact List.mem_cons_self)
  dsimp only at hlo
  obtain ⟨st, hst⟩ : ∃ x, (if (d.size : Int) < hi + 1 then (d.size : Int) else hi + 1) = x := ⟨_, rfl⟩
  obtain ⟨m, hm⟩ : ∃ x, (if lo + k < st then lo + k else st) = x := ⟨_, rfl⟩
  obtain ⟨e, he⟩ : ∃ x, (if lo < m then m else lo) = x := ⟨_, rfl⟩
  have e1 : st = min (hi + 1) (d.size : Int) := by rw [← hst]; split <;> omega
  have e2 : m = min st (lo + k) := by rw [← hm]; split <;> omega
  have e3 : e = max lo m := by rw [← he]; split <;> omega
  have e4 : max lo (min (min (hi + 1) (d.size : Int)) (lo + k)) = e := by omega
  by_cases h1 : hi = (d.size : Int)
  · by_cases h2 : e = (d.size : Int)
    · have hf : decide (hi = (d.size : Int) ∧ e = (d.size : Int) ∧ lo ≤ hi) = true := decide_eq_true ⟨h1, h2, hlo.2.1⟩
      rw [nextI_lost (s := ⟨d, f, l, n, LA, LB⟩) hL e4 hf (by rintro ⟨_, e⟩; cases e)]
      by_cases h4 : e = lo
      · exact snext_i_lost4 d f l n LA LB A ca B cb k w hA hB eA eB hn hn' HV HC lo hi T hL st m e hst hm he (beq_t h1) (beq_t h2) (beq_t h4) _ rfl
      · exact snext_i_lost3 d f l n LA LB A ca B cb k w hA hB eA eB hn hn' HV HC lo hi T hL st m e hst hm he (beq_t h1) (beq_t h2) (beq_f h4) _ rfl
    · have hf : decide (hi = (d.size : Int) ∧ e = (d.size : Int) ∧ lo ≤ hi) = false := decide_eq_false (fun h => h2 h.2.1)
      have h4 : ¬ e = lo := by omega
      rw [nextI_lost (s := ⟨d, f, l, n, LA, LB⟩) hL e4 hf (fun h => h4 h.1)]
      exact snext_i_lost2 d f l n LA LB A ca B cb k w hA hB eA eB hn hn' HV HC lo hi T hL st m e hst hm he (beq_t h1) (beq_f h2) (beq_f h4) _ rfl
  · have hf : decide (hi = (d.size : Int) ∧ e = (d.size : Int) ∧ lo ≤ hi) = false := decide_eq_false (fun h => h1 h.1)
    have h4 : ¬ e = lo := by omega
    rw [nextI_lost (s := ⟨d, f, l, n, LA, LB⟩) hL e4 hf (fun h => h4 h.1)]
    exact snext_i_lost1 d f l n LA LB A ca B cb k w hA hB eA eB hn hn' HV HC lo hi T hL st m e hst hm he (beq_f h1) (beq_f h4) _ rfl

theorem snext_i_fresh (d : ByteArray) (f : Bool) (l n : Int) (LA LB : List Rg) (A : Option Addr) (ca : Nat) (B : Option Addr) (cb : Nat) (k : Int) (w : World) (hA : RngAt w A LA.length LA) (hB : RngAt w B LB.length LB) (eA : A = none → ca = 0) (eB : B = none → cb = 0) (hn : LA.length ≤ 2000000) (hn' : LB.length ≤ 2000000) (HV : Hid (okS ⟨d, f, l, n, LA, LB⟩ = true)) (HC : Hid (decide (1 ≤ k ∧ k ≤ 12) = true)) (hL : LB = []) :
    Calls Try.prog 23 #[.agg #[.string d, .bool f, .int .i64 l, .int .i64 n, .slice A LA.length ca, .slice B LB.length cb], .int .i64 k] w (GotNext w (nextI ⟨d, f, l, n, LA, LB⟩ k)) := by
  have hk := of_decide_eq_true HC.out
  obtain ⟨pos, HP⟩ : ∃ x, Sd.pos ⟨d, f, l, n, LA, LB⟩ = x := ⟨_, rfl⟩
  have hsv := okS_iff.1 HV.out
  have hnp : n ≤ pos := by have := hsv.n1; rw [HP] at this; exact this
  have hpb : (d.size : Int) ≤ pos ∧ pos ≤ (d.size : Int) + 1 := by have e1 : (d.size : Int) ≤ Sd.pos ⟨d, f, l, n, LA, LB⟩ ∧ Sd.pos ⟨d, f, l, n, LA, LB⟩ ≤ (d.size : Int) + 1 := pos_le _; rw [HP] at e1; exact e1
  obtain ⟨st, hst⟩ : ∃ x, (if (d.size : Int) < pos then (d.size : Int) else pos) = x := ⟨_, rfl⟩
  obtain ⟨st2, hst2⟩ : ∃ x, (if l < st then l else st) = x := ⟨_, rfl⟩
  obtain ⟨m, hm⟩ : ∃ x, (if n + k < st2 then n + k else st2) = x := ⟨_, rfl⟩
  obtain ⟨e, he⟩ : ∃ x, (if n < m then m else n) = x := ⟨_, rfl⟩
  have e1 : st = min (d.size : Int) pos := by rw [← hst]; split <;> omega
  have e2 : st2 = min l st := by rw [← hst2]; split <;> omega
  have e3 : m = min (n + k) st2 := by rw [← hm]; split <;> omega
  have e4 : e = max n m := by rw [← he]; split <;> omega
  have e5 : max n (min (min (min (Sd.pos ⟨d, f, l, n, LA, LB⟩ - 1 + 1) (d.size : Int)) l) (n + k)) = e := by rw [HP]; omega
  have hF : ∀ b, decide (pos - 1 = (d.size : Int) ∧ e = (d.size : Int) ∧ n ≤ pos - 1) = b → decide (Sd.pos ⟨d, f, l, n, LA, LB⟩ - 1 = (d.size : Int) ∧ e = (d.size : Int) ∧ n ≤ Sd.pos ⟨d, f, l, n, LA, LB⟩ - 1) = b := fun b h => by rw [HP]; exact h
  by_cases h1 : pos - 1 = (d.size : Int)
  · by_cases h2 : e = (d.size : Int)
    · have h3 : n ≤ pos - 1 := by omega
      rw [nextI_new (s := ⟨d, f, l, n, LA, LB⟩) hL e5 (hF true (decide_eq_true ⟨h1, h2, h3⟩)) (by rintro ⟨_, e⟩; cases e)]
      by_cases h4 : e = n
      · exact snext_i_new4 d f l n LA LB A ca B cb k w hA hB eA eB hn hn' HV HC hL pos (hid_of HP) st st2 m e hst hst2 hm he (beq_t h1) (beq_t h2) (decide_eq_true h3) (beq_t h4) _ rfl
      · exact snext_i_new3 d f l n LA LB A ca B cb k w hA hB eA eB hn hn' HV HC hL pos (hid_of HP) st st2 m e hst hst2 hm he (beq_t h1) (beq_t h2) (decide_eq_true h3) (beq_f h4) _ rfl
    · have hf := hF false (decide_eq_false (fun h => h2 h.2.1))
      by_cases h4 : e = n
      · rw [nextI_none (s := ⟨d, f, l, n, LA, LB⟩) hL e5 hf h4]
        exact snext_i_none2 d f l n LA LB A ca B cb k w hA hB eA eB hn hn' HV HC hL pos (hid_of HP) st st2 m e hst hst2 hm he (beq_t h1) (beq_f h2) (beq_t h4)
      · rw [nextI_new (s := ⟨d, f, l, n, LA, LB⟩) hL e5 hf (fun h => h4 h.1)]
        exact snext_i_new2 d f l n LA LB A ca B cb k w hA hB eA eB hn hn' HV HC hL pos (hid_of HP) st st2 m e hst hst2 hm he (beq_t h1) (beq_f h2) (beq_f h4) _ rfl
  · have hf := hF false (decide_eq_false (fun h => h1 h.1))
    by_cases h4 : e = n
    · rw [nextI_none (s := ⟨d, f, l, n, LA, LB⟩) hL e5 hf h4]
      exact snext_i_none1 d f l n LA LB A ca B cb k w hA hB eA eB hn hn' HV HC hL pos (hid_of HP) st st2 m e hst hst2 hm he (beq_f h1) (beq_t h4)
    · rw [nextI_new (s := ⟨d, f, l, n, LA, LB⟩) hL e5 hf (fun h => h4 h.1)]
      exact snext_i_new1 d f l n LA LB A ca B cb k w hA hB eA eB hn hn' HV HC hL pos (hid_of HP) st st2 m e hst hst2 hm he (beq_f h1) (beq_f h4) _ rfl

theorem snext_i (d : ByteArray) (f : Bool) (l n : Int) (LA LB : List Rg) (A : Option Addr) (ca : Nat) (B : Option Addr) (cb : Nat) (k : Int) (w : World) (hA : RngAt w A LA.length LA) (hB : RngAt w B LB.length LB) (eA : A = none → ca = 0) (eB : B = none → cb = 0) (hn : LA.length ≤ 2000000) (hn' : LB.length ≤ 2000000) :
    Calls Try.prog 23 #[.agg #[.string d, .bool f, .int .i64 l, .int .i64 n, .slice A LA.length ca, .slice B LB.length cb], .int .i64 k] w (GotNext w (sendNext ⟨d, f, l, n, LA, LB⟩ k)) := by
  unfold sendNext
  cases hv : okS ⟨d, f, l, n, LA, LB⟩ with
  | false => rw [if_neg (by rintro ⟨e, _⟩; cases e)]; exact snext_i_bad d f l n LA LB A ca B cb k w hA hB eA eB hn hn' hv
  | true =>
    cases hc : decide (1 ≤ k ∧ k ≤ 12) with
    | false => rw [if_neg (by rintro ⟨_, e⟩; cases e)]; exact snext_i_size d f l n LA LB A ca B cb k w hA hB eA eB hn hn' hv hc
    | true =>
      rw [if_pos ⟨rfl, rfl⟩, ← next_eq (okS_iff.1 hv) (of_decide_eq_true hc).1]
      cases hL : LB with
      | nil => exact hL ▸ snext_i_fresh d f l n LA LB A ca B cb k w hA hB eA eB hn hn' hv hc hL
      | cons r T => exact hL ▸ snext_i_lost d f l n LA LB A ca B cb k w hA hB eA eB hn hn' hv hc r.lo r.hi T hL

end Go.Proofs.Ytmkmaeblnnfheaa
