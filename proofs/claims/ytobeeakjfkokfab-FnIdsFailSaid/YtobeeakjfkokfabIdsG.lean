/- Appending to lists of identifiers; the cases of each operation; what each call answers, in the form that the walks want. -/
import Derived.Test.YtobeeakjfkokfabIdsE
import Derived.Test.YtobeeakjfkokfabIdsF
namespace Go.Proofs.Ytobeeakjfkokfab
open Go.RowKit

/-- A list, a number and a mark were handed back; the list is new. -/
def Got3 (w : World) (r : List Cid × Int × Bool) (e : Ending) (w' : World) : Prop :=
  ∃ A n c, e = .returned (.tuple #[.slice A n c, .int .i64 r.2.1, .bool r.2.2]) ∧ IdsIn w' w.heap.size w'.heap.size A n c r.1 ∧ Below w.heap.size w w'
def Got2 (w : World) (r : List Cid × Bool) (e : Ending) (w' : World) : Prop :=
  ∃ A n c, e = .returned (.tuple #[.slice A n c, .bool r.2]) ∧ IdsIn w' w.heap.size w'.heap.size A n c r.1 ∧ Below w.heap.size w w'

section
variable {ops : Array Oper} {rest : List Oper} {o : Oper} {a : Act} {Q : Exit → Act → World → Prop}
/-- append to a slice literal without elements: a copy. -/
theorem wpList_copy_ids (w : World) (hg : o.guard = none) (s x : Operand) (hop : o.op = Op.call { callee := Callee.builtin Builtin.append, args := #[s, x], argTypes := #[23, 23] })
    {base g B S n c : Nat} {A : Option Addr} {L : List Cid} (hs : a.eval s = .slice (some ⟨g, 0, none⟩) 0 0) (hown : w.ownsRow base 30 3 (.slice (some ⟨g, 0, none⟩) 0 0) 0 []) (hbase : base ≤ w.heap.size)
    (hx : a.eval x = .slice A n c) (h : IdsIn w B S A n c L) (hn : n ≤ 2000000)
    (hK : ∀ A' c' w', IdsIn w' base w'.heap.size A' n c' L → w.grownBy w' (some g) → wpList Try.prog ops Q rest (a.put o.dst (.slice A' n c')) w') :
    wpList Try.prog ops Q (o :: rest) a w := by
  obtain ⟨i0, hi0, hz0, hz1, hz2⟩ := info_parts info_cid'
  cases A with
  | none =>
    have hn0 : n = 0 ∧ c = 0 := by
      rcases h.2.2 with h0 | ⟨_, g, e, _⟩
      · exact h0
      · cases e
    obtain ⟨rfl, rfl⟩ := hn0
    obtain rfl : L = [] := List.eq_nil_of_length_eq_zero h.1
    refine wpList_append_fits_any w hg s x _ hop base 30 i0 3 Try.underlying23 hi0 hz1 g 0 0 [] hs hown none 0 0 [] hx rfl (fun _ => ⟨rfl, rfl⟩) (fun _ e => by cases e) (fun _ e => by cases e) (Nat.le_refl _) fun w' _ hgr => ?_
    exact hK _ _ _ (IdsIn.empty _ _ _) hgr
  | some x0 =>
    have hlen := h.2.len
    refine wpList_append_own w hg s x _ hop base 30 i0 (.agg #[.int .i64 0, .int .i64 0, .bool false]) 3 24 Try.underlying23 hi0 hz0 hz1 hz2 rfl (by decide) _ _ _ hs hown x0 n c (cells L) hx hlen ?_ (cells_one L) (by unfold maxLen; omega) (by omega) hbase fun v' w' hown' hgr _ => ?_
    · intro j u hj
      have hjl : j < n * 3 := by
        have := (List.getElem?_eq_some_iff.1 hj).1
        omega
      obtain ⟨g, e, _, _, _, hc, _⟩ := h.2.blk (by omega)
      cases e
      rw [Addr.add_lit, Nat.zero_add, hc j hjl]
      exact hj
    · obtain ⟨A', c', rfl, hr⟩ := IdsIn.of_own (n := n) (by simpa using hown')
      exact hK _ _ _ hr hgr

/-- One identifier is appended. -/
theorem wpList_snoc_ids (w : World) (hg : o.guard = none) (s x : Operand) (hop : o.op = Op.call { callee := Callee.builtin Builtin.append, args := #[s, x], argTypes := #[23, 23] })
    {B S n c gx : Nat} {A : Option Addr} {L : List Cid} (y : Cid) (hs : a.eval s = .slice A n c) (h : IdsIn w B S A n c L) (hB : B ≤ w.heap.size) (hn : n ≤ 2000000)
    (hx : a.eval x = .slice (some ⟨gx, 0, none⟩) 1 1) (hc0 : w.cell? ⟨gx, 0, none⟩ = some (.int .i64 y.v)) (hc1 : w.cell? ⟨gx, 1, none⟩ = some (.int .i64 y.p)) (hc2 : w.cell? ⟨gx, 2, none⟩ = some (.bool y.r))
    (hK : ∀ A' c' w', IdsIn w' B w'.heap.size A' (n + 1) c' (L ++ [y]) → Touch w w' B S → wpList Try.prog ops Q rest (a.put o.dst (.slice A' (n + 1) c')) w') :
    wpList Try.prog ops Q (o :: rest) a w := by
  obtain ⟨i0, hi0, hz0, hz1, hz2⟩ := info_parts info_cid'
  have hnews : ∀ j u, (cells [y])[j]? = some u → w.cell? ((⟨gx, 0, none⟩ : Addr).add j) = some u := by
    intro j u hj
    rw [Addr.add_lit, Nat.zero_add]
    have e : cells [y] = [.int .i64 y.v, .int .i64 y.p, .bool y.r] := rfl
    rw [e] at hj
    match j, hj with
    | 0, hj => simp at hj; rw [hc0, hj]
    | 1, hj => simp at hj; rw [hc1, hj]
    | 2, hj => simp at hj; rw [hc2, hj]
    | j + 3, hj => simp at hj
  have hlen := h.2.len
  rcases h.2.2 with ⟨rfl, rfl⟩ | ⟨ho, g, rfl, h1, h2, h3⟩
  · obtain rfl : L = [] := List.eq_nil_of_length_eq_zero h.1
    refine wpList_append_grows w hg s x _ hop 30 i0 (.agg #[.int .i64 0, .int .i64 0, .bool false]) 3 24 Try.underlying23 hi0 hz0 hz1 hz2 rfl (by decide) A 0 0 [] hs (fun _ => ⟨rfl, rfl⟩) rfl (fun _ _ _ _ e => by simp at e) ⟨gx, 0, none⟩ 1 1 (cells [y]) hx (by rw [cells_len]; rfl) hnews (cells_one [y]) (by omega) (by unfold maxLen; omega) (by omega) fun v' w' hown' hgr => ?_
    obtain ⟨A', c', rfl, hr⟩ := IdsIn.of_own (n := 0 + 1) (L := [y]) (by simpa using hown')
    exact hK _ _ _ (hr.mono hB (Nat.le_refl _)) ⟨hgr.os, hgr.tape, hgr.output, hgr.size, fun k hk _ => hgr.block k hk (by simp)⟩
  · refine wpList_append_own w hg s x _ hop B 30 i0 (.agg #[.int .i64 0, .int .i64 0, .bool false]) 3 24 Try.underlying23 hi0 hz0 hz1 hz2 rfl (by decide) _ _ _ hs ho ⟨gx, 0, none⟩ 1 1 (cells [y]) hx (by rw [cells_len]; rfl) hnews (cells_one [y]) (by unfold maxLen; omega) (by omega) hB fun v' w' hown' hgr _ => ?_
    rw [← cells_append] at hown'
    obtain ⟨A', c', rfl, hr⟩ := IdsIn.of_own hown'
    exact hK _ _ _ hr ⟨hgr.os, hgr.tape, hgr.output, hgr.size, fun k hk hb => hgr.block k hk (by simp [Value.ownBlock]; omega)⟩
end

section
variable {B S : Nat} {A : Option Addr} {n c : Nat} {L : List Cid} {w : World} {q m : Int} {b : Bool}
theorem valid_i (h : IdsIn w B S A n c L) (hn : n ≤ 2000000) (hk : okI L = b) : Calls Try.prog 15 #[.slice A n c] w fun e w' => e = .returned (.bool b) ∧ Below w.heap.size w w' :=
  (valid_impl A n c L w h hn).mono fun _ _ ⟨he, hw⟩ => ⟨by rw [he, hk], hw⟩
theorem valid_s (h : IdsIn w B S A n c L) (hn : n ≤ 2000000) (hk : okI L = b) : Calls Try.prog 16 #[.slice A n c] w fun e w' => e = .returned (.bool b) ∧ Below w.heap.size w w' :=
  (valid_spec A n c L w h hn).mono fun _ _ ⟨he, hw⟩ => ⟨by rw [he, hk], hw⟩
theorem on_i (h : IdsIn w B S A n c L) (hn : n ≤ 2000000) (hk : onIdx L q = m) : Calls Try.prog 39 #[.slice A n c, .int .i64 q] w fun e w' => e = .returned (.int .i64 m) ∧ Below w.heap.size w w' :=
  (idOn_any A n c L w q h hn).mono fun _ _ ⟨he, hw⟩ => ⟨by rw [he, hk], hw⟩
theorem on_s (h : IdsIn w B S A n c L) (hn : n ≤ 2000000) (hk : onIdx L q = m) : Calls Try.prog 41 #[.slice A n c, .int .i64 q] w fun e w' => e = .returned (.int .i64 m) ∧ Below w.heap.size w w' :=
  (on_spec A n c L w q h hn).mono fun _ _ ⟨he, hw⟩ => ⟨by rw [he, hk], by rw [hw]; exact Below.refl _ _⟩
theorem clone_i (h : IdsIn w B S A n c L) (hn : n ≤ 2000000) : Calls Try.prog 32 #[.slice A n c] w fun e w' => ∃ A' c', e = .returned (.slice A' n c') ∧ IdsIn w' w.heap.size w'.heap.size A' n c' L ∧ Below w.heap.size w w' :=
  (clone_any A n c L w h hn).mono fun _ _ ⟨A', n', c', he, hI, hb⟩ => by
    obtain rfl : n' = n := by rw [← hI.1, h.1]
    exact ⟨A', c', he, hI, hb⟩
end

variable (L : List Cid) (p s v : Int)
theorem on_how : (Hid (okI L = false) ∧ onV L p = -1) ∨ (Hid (okI L = true) ∧ Hid (decide (0 ≤ p ∧ p ≤ 3) = false) ∧ onV L p = -1) ∨
    (Hid (okI L = true) ∧ Hid (decide (0 ≤ p ∧ p ≤ 3) = true) ∧ Hid (onIdx L p = -1) ∧ onV L p = -1) ∨
    (Hid (okI L = true) ∧ Hid (decide (0 ≤ p ∧ p ≤ 3) = true) ∧ ∃ k : Nat, k < L.length ∧ Hid (onIdx L p = k) ∧ onV L p = (nth L k).v) := by
  cases hk : okI L with
  | false => exact .inl ⟨rfl, onV_bad (by rw [hk]; simp)⟩
  | true =>
    by_cases hr : 0 ≤ p ∧ p ≤ 3
    · rcases onIdx_cases L p with ⟨e, hn⟩ | ⟨k, hl, e, ho, _⟩
      · exact .inr (.inr (.inl ⟨rfl, decide_eq_true hr, e, onV_none hn⟩))
      · exact .inr (.inr (.inr ⟨rfl, decide_eq_true hr, k, hl, e, onV_eq hk hl ho hr⟩))
    · exact .inr (.inl ⟨rfl, decide_eq_false hr, onV_bad (fun e => hr e.2)⟩)
theorem assign_how : (Hid (okI L = false) ∧ assign L p = ([], 0, false)) ∨ (Hid (okI L = true) ∧ Hid (decide (0 ≤ p ∧ p ≤ 3) = false) ∧ assign L p = ([], 0, false)) ∨
    (Hid (okI L = true) ∧ Hid (decide (0 ≤ p ∧ p ≤ 3) = true) ∧ ∃ u : Int, ∃ m : Nat, Hid (onIdx L (-1) = u) ∧ Hid (onIdx L p = m) ∧ assign L p = (L, -1, false)) ∨
    (Hid (okI L = true) ∧ Hid (decide (0 ≤ p ∧ p ≤ 3) = true) ∧ Hid (onIdx L (-1) = -1) ∧ Hid (onIdx L p = -1) ∧ assign L p = (L, -1, false)) ∨
    (Hid (okI L = true) ∧ Hid (decide (0 ≤ p ∧ p ≤ 3) = true) ∧ ∃ k : Nat, k < L.length ∧ Hid (onIdx L (-1) = k) ∧ Hid (onIdx L p = -1) ∧ assign L p = (setP L k p, (nth L k).v, true)) := by
  cases hk : okI L with
  | false => exact .inl ⟨rfl, assign_bad (by rw [hk]; simp)⟩
  | true =>
    by_cases hr : 0 ≤ p ∧ p ≤ 3
    · refine .inr (.inr ?_)
      rcases onIdx_cases L p with ⟨e, _⟩ | ⟨m, hl, e, _, _⟩
      · rcases onIdx_cases L (-1) with ⟨e2, _⟩ | ⟨k, hl2, e2, _, _⟩
        · exact .inr (.inl ⟨rfl, decide_eq_true hr, e2, e, assign_no hk hr (.inr (by omega))⟩)
        · exact .inr (.inr ⟨rfl, decide_eq_true hr, k, hl2, e2, e, assign_yes hk hr (by omega) e2⟩)
      · exact .inl ⟨rfl, decide_eq_true hr, _, m, rfl, e, assign_no hk hr (.inl (by omega))⟩
    · exact .inr (.inl ⟨rfl, decide_eq_false hr, assign_bad (fun e => hr e.2)⟩)
theorem migrate_how : (Hid (okI L = false) ∧ migrate L p = ([], 0, false)) ∨ (Hid (okI L = true) ∧ Hid (decide (0 ≤ p ∧ p ≤ 3) = false) ∧ migrate L p = ([], 0, false)) ∨
    (Hid (okI L = true) ∧ Hid (decide (0 ≤ p ∧ p ≤ 3) = true) ∧ ∃ u : Int, Hid (onIdx L (-1) = u) ∧ Hid (onIdx L p = -1) ∧ migrate L p = (L, -1, false)) ∨
    (Hid (okI L = true) ∧ Hid (decide (0 ≤ p ∧ p ≤ 3) = true) ∧ ∃ m : Nat, Hid (onIdx L (-1) = -1) ∧ Hid (onIdx L p = m) ∧ migrate L p = (L, -1, false)) ∨
    (Hid (okI L = true) ∧ Hid (decide (0 ≤ p ∧ p ≤ 3) = true) ∧ ∃ i k : Nat, i < L.length ∧ k < L.length ∧ Hid (onIdx L (-1) = k) ∧ Hid (onIdx L p = i) ∧ migrate L p = (setP (setR L i) k p, (nth L k).v, true)) := by
  cases hk : okI L with
  | false => exact .inl ⟨rfl, migrate_bad (by rw [hk]; simp)⟩
  | true =>
    by_cases hr : 0 ≤ p ∧ p ≤ 3
    · refine .inr (.inr ?_)
      rcases onIdx_cases L p with ⟨e, _⟩ | ⟨m, hl, e, _, _⟩
      · exact .inl ⟨rfl, decide_eq_true hr, _, rfl, e, migrate_no hk hr (.inl (by omega))⟩
      · rcases onIdx_cases L (-1) with ⟨e2, _⟩ | ⟨k, hl2, e2, _, _⟩
        · exact .inr (.inl ⟨rfl, decide_eq_true hr, m, e2, e, migrate_no hk hr (.inr (by omega))⟩)
        · exact .inr (.inr ⟨rfl, decide_eq_true hr, m, k, hl, hl2, e2, e, migrate_yes hk hr e e2⟩)
    · exact .inr (.inl ⟨rfl, decide_eq_false hr, migrate_bad (fun e => hr e.2)⟩)
theorem retire_how : (Hid (okI L = false) ∧ retire L s = ([], false)) ∨ (Hid (okI L = true) ∧ Hid (decide (0 ≤ s ∧ s ≤ (L.length : Int) - 1) = false) ∧ retire L s = (L, false)) ∨
    (Hid (okI L = true) ∧ Hid (decide (0 ≤ s ∧ s ≤ (L.length : Int) - 1) = true) ∧ ∃ k : Nat, s = k ∧ k < L.length ∧ (nth L k).r = true ∧ retire L s = (L, false)) ∨
    (Hid (okI L = true) ∧ Hid (decide (0 ≤ s ∧ s ≤ (L.length : Int) - 1) = true) ∧ ∃ k : Nat, s = k ∧ k < L.length ∧ (nth L k).r = false ∧ retire L s = (setR L k, true)) := by
  cases hk : okI L with
  | false => exact .inl ⟨rfl, retire_bad (by rw [hk]; simp)⟩
  | true =>
    by_cases hr : 0 ≤ s ∧ s ≤ (L.length : Int) - 1
    · obtain ⟨k, rfl⟩ := Int.eq_ofNat_of_zero_le hr.1
      have hkl : k < L.length := by omega
      cases hx : (nth L k).r with
      | true => exact .inr (.inr (.inl ⟨rfl, decide_eq_true hr, k, rfl, hkl, hx, retire_no hk (.inr (by rw [Int.toNat_natCast]; exact hx))⟩))
      | false => exact .inr (.inr (.inr ⟨rfl, decide_eq_true hr, k, rfl, hkl, hx, retire_yes hk hkl hx⟩))
    · exact .inr (.inl ⟨rfl, decide_eq_false hr, retire_no hk (.inl hr)⟩)
theorem issue_how : (Hid (okI L = false) ∧ issue L v = ([], 0, false)) ∨ (Hid (okI L = true) ∧ Hid (decide (0 ≤ v ∧ v ≤ 9999) = false) ∧ issue L v = ([], 0, false)) ∨
    (Hid (okI L = true) ∧ Hid (decide (0 ≤ v ∧ v ≤ 9999) = true) ∧ L.length ≤ 8 ∧ act L ≤ 4 ∧ Hid (L.any (fun x => decide (x.v = v)) = true) ∧ issue L v = (L, -1, false)) ∨
    (Hid (okI L = true) ∧ Hid (decide (0 ≤ v ∧ v ≤ 9999) = true) ∧ Hid (L.any (fun x => decide (x.v = v)) = false) ∧ act L ≤ 4 ∧ L.length = 8 ∧ issue L v = (L, -1, false)) ∨
    (Hid (okI L = true) ∧ Hid (decide (0 ≤ v ∧ v ≤ 9999) = true) ∧ Hid (L.any (fun x => decide (x.v = v)) = false) ∧ L.length < 8 ∧ act L = 4 ∧ issue L v = (L, -1, false)) ∨
    (Hid (okI L = true) ∧ Hid (decide (0 ≤ v ∧ v ≤ 9999) = true) ∧ Hid (L.any (fun x => decide (x.v = v)) = false) ∧ L.length < 8 ∧ act L < 4 ∧ issue L v = (L ++ [⟨v, -1, false⟩], (L.length : Int), true)) := by
  cases hk : okI L with
  | false => exact .inl ⟨rfl, issue_bad (by rw [hk]; simp)⟩
  | true =>
    by_cases hr : 0 ≤ v ∧ v ≤ 9999
    · have h8 := ok_len hk
      have h4 := ok_act hk
      refine .inr (.inr ?_)
      cases hx : L.any (fun x => decide (x.v = v)) with
      | true => exact .inl ⟨rfl, decide_eq_true hr, h8, h4, rfl, issue_no hk hr (.inl hx)⟩
      | false =>
        refine .inr ?_
        by_cases e8 : L.length = 8
        · exact .inl ⟨rfl, decide_eq_true hr, rfl, h4, e8, issue_no hk hr (.inr (.inl (by omega)))⟩
        · by_cases e4 : act L = 4
          · exact .inr (.inl ⟨rfl, decide_eq_true hr, rfl, by omega, e4, issue_no hk hr (.inr (.inr (by omega)))⟩)
          · exact .inr (.inr ⟨rfl, decide_eq_true hr, rfl, by omega, by omega, issue_yes hk hr (by rw [hx]; simp; omega)⟩)
    · exact .inr (.inl ⟨rfl, decide_eq_false hr, issue_bad (fun e => hr e.2)⟩)

end Go.Proofs.Ytobeeakjfkokfab
