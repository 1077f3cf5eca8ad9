/- Slices of ranges for the exact laws: measured, copied in, compared, marked, and the marks read back. -/
import Derived.Test.YtmkmaeblnnfheabRngD
import Derived.StillTailTactics
namespace Go.Proofs.Ytmkmaeblnnfheab
open Go.RowKit

theorem rcells_take_succ {L : List Rg} {k : Nat} (h : k < L.length) : rcells (L.take k) ++ [.int .i64 (rth L k).lo, .int .i64 (rth L k).hi] = rcells (L.take (k + 1)) := by
  rw [List.take_succ_eq_append_getElem h, rcells_append, ← rth_eq h]
  rfl
theorem rcells_set : ∀ {L : List Rg} {k : Nat} (c : Rg), k < L.length → (((rcells L).set (k * 2) (.int .i64 c.lo)).set (k * 2 + 1) (.int .i64 c.hi)) = rcells (L.set k c)
  | [], k, _, h => by simp at h
  | a :: L, 0, c, _ => rfl
  | a :: L, k + 1, c, h => by
    have e : (a :: L).set (k + 1) c = a :: L.set k c := rfl
    rw [e, rcells_cons, rcells_cons, show (k + 1) * 2 = k * 2 + 1 + 1 from by omega, ← rcells_set c (by simpa using h)]
    rfl
section
variable {w : World} {B S : Nat} {n c g k : Nat} {A : Option Addr} {L : List Rg} {T : TypeId} {X R : List Value}
theorem RngIn.store (h : RngIn w B S (some ⟨g, 0, none⟩) n c L) (hk : k < n) (x : Rg) :
    RngIn ((w.setCell ⟨g, k * 2, none⟩ (.int .i64 x.lo)).setCell ⟨g, k * 2 + 1, none⟩ (.int .i64 x.hi)) B S (some ⟨g, 0, none⟩) n c (L.set k x) := by
  refine ⟨by rw [List.length_set]; exact h.1, ?_⟩
  rw [← rcells_set x (by rw [h.1]; exact hk)]
  exact (h.2.stored (by omega) _ _).stored (by omega) _ _
theorem RowIn.fill2 (h : RowIn T 2 w B S (some ⟨g, 0, none⟩) n c (X ++ R)) (hX : X.length = k * 2) (hR : R.length = (n - k) * 2) (hk : k < n) (u0 u1 : Value) :
    ∃ R', R'.length = (n - (k + 1)) * 2 ∧ RowIn T 2 ((w.setCell ⟨g, k * 2, none⟩ u0).setCell ⟨g, k * 2 + 1, none⟩ u1) B S (some ⟨g, 0, none⟩) n c ((X ++ [u0, u1]) ++ R') := by
  obtain ⟨a, b, R', rfl⟩ : ∃ a b R', R = a :: b :: R' := by
    match R, hR with
    | a :: b :: R', _ => exact ⟨a, b, R', rfl⟩
    | [], h => simp at h; omega
    | [_], h => simp at h; omega
  refine ⟨R', by simp at hR; omega, ?_⟩
  have e := (h.stored (by omega) (k * 2) u0).stored (by omega) (k * 2 + 1) u1
  have e2 : ((X ++ a :: b :: R').set (k * 2) u0).set (k * 2 + 1) u1 = (X ++ [u0, u1]) ++ R' := by
    rw [List.set_append_right _ _ (by omega), show k * 2 - X.length = 0 from by omega, List.set_cons_zero]
    rw [List.set_append_right _ _ (by omega), show k * 2 + 1 - X.length = 0 + 1 from by omega, List.set_cons_succ, List.set_cons_zero]
    simp
  rw [e2] at e
  exact e
end

theorem szR_any (A : Option Addr) (n c : Nat) (x : Int) (w : World) (hn : n ≤ 9223372036854775807) (hx : 0 ≤ x ∧ x ≤ 1048576) :
    Calls Try.prog 58 #[.slice A n c, .int .i64 x] w fun e w' => e = .returned (.int .i64 (if x < n then -1 else x - (n : Int))) ∧ w = w' := by
  obtain ⟨hx0, hx1⟩ := hx
  go_enter Try.func58, Try.ntmps58
  go_wp2
  all_goals
    go_returns
    refine ⟨ret_int ?_, rfl⟩
    first | rfl | (split <;> simp_all <;> omega) | (simp_all <;> omega)

theorem toRange_any (x y : Int) (w : World) :
    Calls Try.prog 81 #[.agg #[.int .i64 x, .int .i64 y]] w fun e w' => e = .returned (.agg #[.int .i64 x, .int .i64 y]) ∧ Below w.heap.size w w' := by
  go_enter Try.func81, Try.ntmps81
  go_wp2
  go_returns
  exact ⟨rfl, by go_grown⟩

theorem eqRange_any (x y : Int) (w : World) :
    Calls Try.prog 84 #[.agg #[.int .i64 x, .int .i64 y], .agg #[.int .i64 x, .int .i64 y]] w fun e w' => e = .returned (.bool true) ∧ Below w.heap.size w w' := by
  go_enter Try.func84, Try.ntmps84
  go_wp2
  go_returns
  exact ⟨rfl, by go_grown⟩

set_option maxHeartbeats 1000000 in
theorem toR_any (A : Option Addr) (n c : Nat) (L : List Rg) (w : World) (h : RngAt w A n L) (hn : n ≤ 1048576) :
    Calls Try.prog 61 #[.slice A n c] w (GotRng w L) := by
  obtain ⟨i0, hi0, hz0, hz1, hz2⟩ := info_parts info_rng
  go_enter Try.func61, Try.ntmps61
  go_wp2_with ((at_make; refine wpList_make_full _ rfl _ _ 23 rfl w.heap.size 51 i0 (.agg #[.int .i64 0, .int .i64 0]) 2 Try.underlying23 hi0 hz0 hz1 .i64 .i64 _ _ n rfl rfl rfl rfl (by rw [hz2]; omega) (by unfold maxLen; omega) (Nat.le_refl _) ?_; intro w0 hown0 hgrow0))
  have hr0 := RowIn.of_own' hown0
  have hb0 := below_of_none hgrow0
  have hl := h.1
  go_loopw [4] (fun i wr => ∃ k R, i = .int .i64 (k : Nat) ∧ k ≤ n ∧ R.length = (n - k) * 2 ∧ RowIn 51 2 wr w.heap.size w0.heap.size (some ⟨w.heap.size, 0, none⟩) n n (rcells (L.take k) ++ R) ∧ Below w.heap.size w wr ∧ w0.heap.size ≤ wr.heap.size)
    (fun i _ => n - (intOf i).toNat)
  case atStart =>
    exact ⟨0, _, rfl, Nat.zero_le _, by have := hr0.1; omega, by simpa [rcells] using hr0, hb0, Nat.le_refl _⟩
  case round =>
    obtain ⟨k, R, rfl, hk, hR, hrow, hb, hsz⟩ := hrel
    by_cases hlt : k < n
    · obtain ⟨b, off, rfl, hbl, hc⟩ := (h.below (w' := wr) hb).2 (by omega)
      obtain ⟨c0, c1⟩ := hc k hlt
      obtain ⟨v0, q0⟩ := hrow.some_ (j := k * 2) (by omega) (by omega)
      obtain ⟨v1, q1⟩ := hrow.some_ (j := k * 2 + 1) (by omega) (by omega)
      obtain ⟨g', e', _, _, hgl, _, hf⟩ := hrow.blk (by omega)
      cases e'
      clear hc
      go_wp2_with fail
      refine (toRange_any _ _ _).mono ?_
      rintro e w1 ⟨rfl, hb1⟩
      have q0' := (hb1.cell (p := ⟨w.heap.size, k * 2, none⟩) hgl).trans q0
      have q1' := (hb1.cell (p := ⟨w.heap.size, k * 2 + 1, none⟩) hgl).trans q1
      have f0' := (hb1.frozen (p := ⟨w.heap.size, k * 2, none⟩) hgl).trans (hf _)
      have f1' := (hb1.frozen (p := ⟨w.heap.size, k * 2 + 1, none⟩) hgl).trans (hf _)
      clear q0 q1 c0 c1 hf
      obtain ⟨R', hR', hrow'⟩ := (hrow.below hb1).fill2 (by rw [rcells_len, List.length_take]; omega) hR hlt (.int .i64 (rth L k).lo) (.int .i64 (rth L k).hi)
      rw [rcells_take_succ (by omega)] at hrow'
      have hb' : Below w.heap.size w w1 := hb.trans (hb1.mono hb.size)
      go_wp2_with fail
      go_roundw
      case rel => exact ⟨k + 1, R', by go_num, by omega, hR', hrow', (hb'.setCell (Nat.le_refl _) _).setCell (Nat.le_refl _) _, by have := hb1.size; simp; omega⟩
      case measure => simp [intOf]; omega
    · have hkn : k = n := by omega
      subst hkn
      clear hlt
      obtain rfl : R = [] := List.eq_nil_of_length_eq_zero (by simpa using hR)
      rw [List.take_of_length_le (by omega), List.append_nil] at hrow
      go_wp2_with fail
      go_ret
      subst hl
      exact ⟨_, _, rfl, ⟨rfl, hrow.mono (Nat.le_refl _) hsz⟩, hb⟩

set_option maxRecDepth 100000 in
theorem eqR_any (A A' : Option Addr) (n c c' : Nat) (L : List Rg) (w : World) (h : RngAt w A n L) (h' : RngAt w A' n L) (hn : n ≤ 2000000) :
    Calls Try.prog 64 #[.slice A n c, .slice A' n c'] w fun e w' => e = .returned (.bool true) ∧ Below w.heap.size w w' := by
  go_enter Try.func64, Try.ntmps64
  go_wp2_with fail
  go_loopw [5] (fun i wr => ∃ k, i = .int .i64 (k : Nat) ∧ k ≤ n ∧ Below w.heap.size w wr) (fun i _ => n - (intOf i).toNat)
  case atStart => exact ⟨0, rfl, Nat.zero_le _, Below.refl _ _⟩
  case round =>
    obtain ⟨k, rfl, hk, hb⟩ := hrel
    by_cases hlt : k < n
    · obtain ⟨g, off, rfl, _, hc⟩ := (h.below hb).2 (by omega)
      obtain ⟨g', off', rfl, _, hc'⟩ := (h'.below hb).2 (by omega)
      obtain ⟨c0, c1⟩ := hc k hlt
      obtain ⟨d0, d1⟩ := hc' k hlt
      clear hc hc'
      go_wp2_with fail
      go_still_tail 8, (by kernel_rfl)
      go_wp2_with fail
      refine (eqRange_any _ _ _).mono ?_
      rintro e w1 ⟨rfl, hb1⟩
      go_wp2_with fail
      go_roundw
      case rel => exact ⟨k + 1, by go_num, by omega, hb.drew.trans (hb1.mono hb.size)⟩
      case measure => simp [intOf]; omega
    · have hkn : k = n := by omega
      subst hkn
      clear hlt
      go_wp2_with fail
      go_ret
      exact ⟨rfl, hb⟩

def markAt (k : Int) (j : Nat) : Rg := ⟨k + 2 * (j : Int), k + 2 * (j : Int) + 1⟩
def marks (k : Int) (n : Nat) : List Rg := (List.range n).map (markAt k)
theorem len_marks (k : Int) (n : Nat) : (marks k n).length = n := by unfold marks; simp
theorem rth_marks {k : Int} {n j : Nat} (h : j < n) : rth (marks k n) j = markAt k j := by
  rw [rth_eq (by rw [len_marks]; exact h)]
  unfold marks
  simp
theorem marks_succ (k : Int) (n : Nat) : marks k (n + 1) = marks k n ++ [markAt k n] := by
  unfold marks
  rw [List.range_succ, List.map_append]
  rfl
theorem marks_step {k : Int} {j : Nat} {L : List Rg} (h : j < L.length) : (marks k j ++ L.drop j).set j (markAt k j) = marks k (j + 1) ++ L.drop (j + 1) := by
  rw [List.set_append_right _ _ (by rw [len_marks]; exact Nat.le_refl _), len_marks, Nat.sub_self, marks_succ, List.drop_eq_getElem_cons h, List.set_cons_zero, List.append_assoc]
  rfl

/-- The slice is marked: it alone has turned. -/
def MarkedR (w : World) (B S : Nat) (A : Option Addr) (n c : Nat) (k : Int) (e : Ending) (w' : World) : Prop :=
  e = .returned (.int .i64 (k + 2 * (n : Int))) ∧ RngIn w' B S A n c (marks k n) ∧ Touch w w' B S

set_option maxHeartbeats 1000000 in
theorem markR_any {B S : Nat} (A : Option Addr) (n c : Nat) (L : List Rg) (w : World) (k0 : Int) (h : RngIn w B S A n c L) (hk0 : 0 ≤ k0) (hk1 : k0 ≤ 100000000) (hn : n ≤ 2000000) :
    Calls Try.prog 65 #[.slice A n c, .int .i64 k0] w (MarkedR w B S A n c k0) := by
  have hl := h.1
  go_enter Try.func65, Try.ntmps65
  go_wp2_with fail
  go_loopw [1, 5] (fun s i wr => ∃ j : Nat, i = .int .i64 (j : Nat) ∧ s = .int .i64 (k0 + 2 * (j : Int)) ∧ j ≤ n ∧ RngIn wr B S A n c (marks k0 j ++ L.drop j) ∧ Touch w wr B S) (fun _ i _ => n - (intOf i).toNat)
  case atStart => exact ⟨0, rfl, by go_num, Nat.zero_le _, by simpa [marks] using h, Touch.refl _ _ _⟩
  case round =>
    obtain ⟨j, rfl, rfl, hj, hI, hT⟩ := hrel
    by_cases hlt : j < n
    · obtain ⟨g, rfl, hB, hS, hgl, hf, hc⟩ := hI.at_ (by omega)
      obtain ⟨c0, c1⟩ := hc j hlt
      have f0 := hf (j * 2)
      have f1 := hf (j * 2 + 1)
      have hI' := hI.store hlt (markAt k0 j)
      rw [marks_step (by omega)] at hI'
      have hT' := (hT.setCell (p := ⟨g, j * 2, none⟩) hB hS (.int .i64 (markAt k0 j).lo)).setCell (p := ⟨g, j * 2 + 1, none⟩) hB hS (.int .i64 (markAt k0 j).hi)
      clear hc hf
      go_wp2_with fail
      go_roundw
      case rel => exact ⟨j + 1, by go_num, by go_num, by omega, hI', hT'⟩
      case measure => simp [intOf]; omega
    · have hkn : j = n := by omega
      subst hkn
      clear hlt
      rw [List.drop_of_length_le (by omega), List.append_nil] at hI
      go_wp2_with fail
      go_ret
      exact ⟨rfl, hI, hT⟩

set_option maxHeartbeats 1000000 in
theorem heldR_any (A : Option Addr) (n c : Nat) (w : World) (k0 : Int) (h : RngAt w A n (marks k0 n)) (hk0 : 0 ≤ k0) (hk1 : k0 ≤ 100000000) (hn : n ≤ 2000000) :
    Calls Try.prog 66 #[.slice A n c, .int .i64 k0] w fun e w' => e = .returned (.int .i64 (k0 + 2 * (n : Int))) ∧ w = w' := by
  go_enter Try.func66, Try.ntmps66
  go_wp2_with fail
  go_loop [1, 5] (fun s i => ∃ j : Nat, i = .int .i64 (j : Nat) ∧ s = .int .i64 (k0 + 2 * (j : Int)) ∧ j ≤ n) (fun _ i => n - (intOf i).toNat)
  case atStart => exact ⟨0, rfl, by go_num, Nat.zero_le _⟩
  case round =>
    obtain ⟨j, rfl, rfl, hj⟩ := hrel
    by_cases hlt : j < n
    · obtain ⟨g, off, rfl, hgl, hc⟩ := h.2 (by omega)
      obtain ⟨c0, c1⟩ := hc j hlt
      rw [rth_marks hlt] at c0 c1
      unfold markAt at c0 c1
      dsimp only at c0 c1
      clear hc
      go_wp2_with fail
      go_round
      case rel => exact ⟨j + 1, by go_num, by go_num, by omega⟩
      case measure => simp [intOf]; omega
    · have hkn : j = n := by omega
      subst hkn
      clear hlt
      go_wp2_with fail
      go_ret
      exact ⟨rfl, rfl⟩

/-- A slice in new memory is marked, and nothing else has turned. -/
def MarkedIn (w : World) (Lo Hi : Nat) (A : Option Addr) (n c : Nat) (k : Int) (e : Ending) (w' : World) : Prop :=
  e = .returned (.int .i64 (k + 2 * (n : Int))) ∧ ∃ g, A = some ⟨g, 0, none⟩ ∧ Lo ≤ g ∧ g < Hi ∧ RngIn w' g (g + 1) A n c (marks k n) ∧ Touch w w' g (g + 1)
theorem RngIn.tight {w : World} {Lo Hi : Nat} {A : Option Addr} {n c : Nat} {L : List Rg} (h : RngIn w Lo Hi A n c L) (hn : 0 < n) : ∃ g, A = some ⟨g, 0, none⟩ ∧ Lo ≤ g ∧ g < Hi ∧ RngIn w g (g + 1) A n c L := by
  rcases h.2.2 with ⟨h0, _⟩ | ⟨ho, g, rfl, r1, r2, r3⟩
  · omega
  · refine ⟨g, rfl, r1, r2, h.1, h.2.1, .inr ⟨⟨ho.1, ?_⟩, g, rfl, Nat.le_refl _, Nat.lt_succ_self _, r3⟩⟩
    rcases ho.2 with e | ⟨g', c', cur, e, q1, q⟩
    · exact .inl e
    · cases e
      exact .inr ⟨g, c, cur, rfl, Nat.le_refl _, q⟩
theorem markR_in {Lo Hi : Nat} (A : Option Addr) (n c : Nat) (L : List Rg) (w : World) (k0 : Int) (h : RngIn w Lo Hi A n c L) (hk0 : 0 ≤ k0) (hk1 : k0 ≤ 100000000) (hn : n ≤ 2000000) (hp : 0 < n) :
    Calls Try.prog 65 #[.slice A n c, .int .i64 k0] w (MarkedIn w Lo Hi A n c k0) := by
  obtain ⟨g, e, h1, h2, h3⟩ := h.tight hp
  exact (markR_any A n c L w k0 h3 hk0 hk1 hn).mono fun _ _ ⟨x, y, z⟩ => ⟨x, g, e, h1, h2, y, z⟩
theorem markR_nil (A : Option Addr) (c : Nat) (w : World) (k0 : Int) : Calls Try.prog 65 #[.slice A 0 c, .int .i64 k0] w fun e w' => e = .returned (.int .i64 k0) ∧ w = w' := by
  go_enter Try.func65, Try.ntmps65
  go_wp2_with fail
  go_loop [1, 5] (fun s i => i = .int .i64 0 ∧ s = .int .i64 k0) (fun _ i => 0)
  case atStart => exact ⟨rfl, rfl⟩
  case round =>
    obtain ⟨rfl, rfl⟩ := hrel
    go_wp2_with fail
    go_ret
    exact ⟨rfl, rfl⟩
end Go.Proofs.Ytmkmaeblnnfheab
