/- Slices are marked, and the marks are read back. -/
import Derived.Test.YtobeeakjfkokfaaIdsB
namespace Go.Proofs.Ytobeeakjfkokfaa
open Go.RowKit

def markAt (k : Int) (j : Nat) : Cid := ⟨k + 3 * (j : Int), k + 3 * (j : Int) + 1, (k + 3 * (j : Int) + 1 + 1) % 3 == 0⟩
def marks (k : Int) (n : Nat) : List Cid := (List.range n).map (markAt k)
theorem len_marks (k : Int) (n : Nat) : (marks k n).length = n := by unfold marks; simp
theorem nth_marks {k : Int} {n j : Nat} (h : j < n) : nth (marks k n) j = markAt k j := by
  rw [nth_eq (by rw [len_marks]; exact h)]
  unfold marks
  simp
theorem marks_succ (k : Int) (n : Nat) : marks k (n + 1) = marks k n ++ [markAt k n] := by
  unfold marks
  rw [List.range_succ, List.map_append]
  rfl
theorem marks_step {k : Int} {j : Nat} {L : List Cid} (h : j < L.length) : (marks k j ++ L.drop j).set j (markAt k j) = marks k (j + 1) ++ L.drop (j + 1) := by
  rw [List.set_append_right _ _ (by rw [len_marks]; exact Nat.le_refl _), len_marks, Nat.sub_self, marks_succ, List.drop_eq_getElem_cons h, List.set_cons_zero, List.append_assoc]
  rfl

/-- The slice is marked: it alone has turned. -/
def Marked (w : World) (B S : Nat) (A : Option Addr) (n c : Nat) (k : Int) (e : Ending) (w' : World) : Prop :=
  e = .returned (.int .i64 (k + 3 * (n : Int))) ∧ IdsIn w' B S A n c (marks k n) ∧ Touch w w' B S

set_option maxHeartbeats 1000000 in
theorem mark_any {B S : Nat} (A : Option Addr) (n c : Nat) (L : List Cid) (w : World) (k0 : Int) (h : IdsIn w B S A n c L) (hk0 : 0 ≤ k0) (hk1 : k0 ≤ 10) (hn : n ≤ 2000000) :
    Calls Try.prog 20 #[.slice A n c, .int .i64 k0] w (Marked w B S A n c k0) := by
  have hl := h.1
  go_enter Try.func20, Try.ntmps20
  go_wp2_with fail
  go_loopw [1, 5] (fun s i wr => ∃ j : Nat, i = .int .i64 (j : Nat) ∧ s = .int .i64 (k0 + 3 * (j : Int)) ∧ j ≤ n ∧ IdsIn wr B S A n c (marks k0 j ++ L.drop j) ∧ Touch w wr B S) (fun _ i _ => n - (intOf i).toNat)
  case atStart => exact ⟨0, rfl, by go_num, Nat.zero_le _, by simpa [marks] using h, Touch.refl _ _ _⟩
  case round =>
    obtain ⟨j, rfl, rfl, hj, hI, hT⟩ := hrel
    by_cases hlt : j < n
    · obtain ⟨g, rfl, hB, hS, hgl, hf, hc⟩ := hI.at_ (by omega)
      obtain ⟨c0, c1, c2⟩ := hc j hlt
      have f0 := hf (j * 3)
      have f1 := hf (j * 3 + 1)
      have f2 := hf (j * 3 + 2)
      have hI' := hI.store hlt (markAt k0 j)
      rw [marks_step (by omega)] at hI'
      have hT' := ((hT.setCell (p := ⟨g, j * 3, none⟩) hB hS (.int .i64 (markAt k0 j).v)).setCell (p := ⟨g, j * 3 + 1, none⟩) hB hS (.int .i64 (markAt k0 j).p)).setCell (p := ⟨g, j * 3 + 2, none⟩) hB hS (.bool (markAt k0 j).r)
      clear hc hf
      go_wp2_with fail
      go_roundw
      case rel => exact ⟨j + 1, by go_num, by go_num, by omega, hI', hT'⟩
      case measure => simp [intOf]; omega
    · have hkn : j = n := by omega
      subst hkn
      clear hlt
      rw [List.drop_of_length_le (by omega), List.append_nil] at hI
      go_wp2_with fail
      go_ret
      exact ⟨rfl, hI, hT⟩

set_option maxHeartbeats 1000000 in
theorem held_any {B S : Nat} (A : Option Addr) (n c : Nat) (w : World) (k0 : Int) (h : IdsIn w B S A n c (marks k0 n)) (hk0 : 0 ≤ k0) (hk1 : k0 ≤ 10) (hn : n ≤ 2000000) :
    Calls Try.prog 21 #[.slice A n c, .int .i64 k0] w fun e w' => e = .returned (.int .i64 (k0 + 3 * (n : Int))) ∧ w = w' := by
  go_enter Try.func21, Try.ntmps21
  go_wp2_with fail
  go_loop [1, 5] (fun s i => ∃ j : Nat, i = .int .i64 (j : Nat) ∧ s = .int .i64 (k0 + 3 * (j : Int)) ∧ j ≤ n) (fun _ i => n - (intOf i).toNat)
  case atStart => exact ⟨0, rfl, by go_num, Nat.zero_le _⟩
  case round =>
    obtain ⟨j, rfl, rfl, hj⟩ := hrel
    by_cases hlt : j < n
    · obtain ⟨g, rfl, hB, hS, hgl, hf, hc⟩ := h.at_ (by omega)
      obtain ⟨c0, c1, c2⟩ := hc j hlt
      rw [nth_marks hlt] at c0 c1 c2
      unfold markAt at c0 c1 c2
      dsimp only at c0 c1 c2
      clear hc hf
      go_wp2_with fail
      go_round
      case rel => exact ⟨j + 1, by go_num, by go_num, by omega⟩
      case measure => simp [intOf]; omega
    · have hkn : j = n := by omega
      subst hkn
      clear hlt
      go_wp2_with fail
      go_ret
      exact ⟨rfl, rfl⟩

end Go.Proofs.Ytobeeakjfkokfaa
