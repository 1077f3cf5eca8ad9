/- A slice of identifiers that came in is copied; two equal slices are compared. -/
import Derived.Test.YtobeeakjfkokfaaIdsA
import Derived.StillTailTactics
namespace Go.Proofs.Ytobeeakjfkokfaa
open Go.RowKit

theorem info_cid : (Try.prog.info? 38).map (fun i => (i.zero, i.size, i.bytes)) = some (some (.agg #[.int .i64 0, .int .i64 0, .bool false]), 3, 24) := by kernel_rfl

/-- A new slice that reads L was handed back; nothing that was there has turned. -/
def GotIds (w : World) (L : List Cid) (e : Ending) (w' : World) : Prop :=
  ∃ A n c, e = .returned (.slice A n c) ∧ IdsIn w' w.heap.size w'.heap.size A n c L ∧ Below w.heap.size w w'

set_option maxHeartbeats 1000000 in
theorem toS_any (A : Option Addr) (n c : Nat) (L : List Cid) (w : World) (h : LawIds w A n L) (hn : n ≤ 1048576) :
    Calls Try.prog 13 #[.slice A n c] w (GotIds w L) := by
  obtain ⟨i0, hi0, hz0, hz1, hz2⟩ := info_parts info_cid
  go_enter Try.func13, Try.ntmps13
  go_wp2_with ((at_make; refine wpList_make_full _ rfl _ _ 25 rfl w.heap.size 38 i0 (.agg #[.int .i64 0, .int .i64 0, .bool false]) 3 Try.underlying25 hi0 hz0 hz1 .i64 .i64 _ _ n rfl rfl rfl rfl (by rw [hz2]; omega) (by unfold maxLen; omega) (Nat.le_refl _) ?_; intro w0 hown0 hgrow0))
  have hr0 := RowIn.of_own' hown0
  have hb0 := below_of_none hgrow0
  have hl := h.1
  go_loopw [4] (fun i wr => ∃ k R, i = .int .i64 (k : Nat) ∧ k ≤ n ∧ R.length = (n - k) * 3 ∧ RowIn 38 3 wr w.heap.size w0.heap.size (some ⟨w.heap.size, 0, none⟩) n n (cells (L.take k) ++ R) ∧ Below w.heap.size w wr ∧ w0.heap.size ≤ wr.heap.size)
    (fun i _ => n - (intOf i).toNat)
  case atStart =>
    exact ⟨0, _, rfl, Nat.zero_le _, by have := hr0.1; omega, by simpa [cells] using hr0, hb0, Nat.le_refl _⟩
  case round =>
    obtain ⟨k, R, rfl, hk, hR, hrow, hb, hsz⟩ := hrel
    by_cases hlt : k < n
    · obtain ⟨b, off, rfl, hbl, hc⟩ := (h.below (w' := wr) hb).2 (by omega)
      obtain ⟨c0, c1, c2⟩ := hc k hlt
      obtain ⟨v0, q0⟩ := hrow.some_ (j := k * 3) (by omega) (by omega)
      obtain ⟨v1, q1⟩ := hrow.some_ (j := k * 3 + 1) (by omega) (by omega)
      obtain ⟨v2, q2⟩ := hrow.some_ (j := k * 3 + 2) (by omega) (by omega)
      obtain ⟨g', e', _, _, hgl, _, hf⟩ := hrow.blk (by omega)
      cases e'
      clear hc
      go_wp2_with fail
      refine (toConnId_any _ _ _ _).mono ?_
      rintro e w1 ⟨rfl, hb1⟩
      have q0' := (hb1.cell (p := ⟨w.heap.size, k * 3, none⟩) hgl).trans q0
      have q1' := (hb1.cell (p := ⟨w.heap.size, k * 3 + 1, none⟩) hgl).trans q1
      have q2' := (hb1.cell (p := ⟨w.heap.size, k * 3 + 2, none⟩) hgl).trans q2
      have f0' := (hb1.frozen (p := ⟨w.heap.size, k * 3, none⟩) hgl).trans (hf _)
      have f1' := (hb1.frozen (p := ⟨w.heap.size, k * 3 + 1, none⟩) hgl).trans (hf _)
      have f2' := (hb1.frozen (p := ⟨w.heap.size, k * 3 + 2, none⟩) hgl).trans (hf _)
      clear q0 q1 q2 c0 c1 c2 hf
      obtain ⟨R', hR', hrow'⟩ := (hrow.below hb1).fill3 (by rw [cells_len, List.length_take]; omega) hR hlt (.int .i64 (nth L k).v) (.int .i64 (nth L k).p) (.bool (nth L k).r)
      rw [cells_take_succ (by omega)] at hrow'
      have hb' : Below w.heap.size w w1 := hb.trans (hb1.mono hb.size)
      go_wp2_with fail
      go_roundw
      case rel => exact ⟨k + 1, R', by go_num, by omega, hR', hrow', ((hb'.setCell (Nat.le_refl _) _).setCell (Nat.le_refl _) _).setCell (Nat.le_refl _) _, by have := hb1.size; simp; omega⟩
      case measure => simp [intOf]; omega
    · have hkn : k = n := by omega
      subst hkn
      clear hlt
      obtain rfl : R = [] := List.eq_nil_of_length_eq_zero (by simpa using hR)
      rw [List.take_of_length_le (by omega), List.append_nil] at hrow
      go_wp2_with fail
      go_ret
      exact ⟨_, _, _, rfl, ⟨hl, hrow.mono (Nat.le_refl _) hsz⟩, hb⟩

/-- Two equal slices are found equal. -/
theorem eqS_any {B S B' S' : Nat} (A A' : Option Addr) (n c c' : Nat) (L : List Cid) (w : World) (h : IdsIn w B S A n c L) (h' : IdsIn w B' S' A' n c' L) (hn : n ≤ 2000000) :
    Calls Try.prog 15 #[.slice A n c, .slice A' n c'] w fun e w' => e = .returned (.bool true) ∧ Below w.heap.size w w' := by
  go_enter Try.func15, Try.ntmps15
  go_wp2_with fail
  go_loopw [5] (fun i wr => ∃ k, i = .int .i64 (k : Nat) ∧ k ≤ n ∧ Below w.heap.size w wr) (fun i _ => n - (intOf i).toNat)
  case atStart => exact ⟨0, rfl, Nat.zero_le _, Below.refl _ _⟩
  case round =>
    obtain ⟨k, rfl, hk, hb⟩ := hrel
    by_cases hlt : k < n
    · obtain ⟨g, rfl, _, _, _, _, hc⟩ := (h.below hb).at_ (by omega)
      obtain ⟨g', rfl, _, _, _, _, hc'⟩ := (h'.below hb).at_ (by omega)
      obtain ⟨c0, c1, c2⟩ := hc k hlt
      obtain ⟨d0, d1, d2⟩ := hc' k hlt
      clear hc hc'
      go_wp2_with fail
      go_still_tail 8, (by kernel_rfl)
      go_wp2_with fail
      refine (eqConnId_any _ _ _ _).mono ?_
      rintro e w1 ⟨rfl, hb1⟩
      go_wp2_with fail
      go_roundw
      case rel => exact ⟨k + 1, by go_num, by omega, hb.drew.trans (hb1.mono hb.size)⟩
      case measure => simp [intOf]; omega
    · have hkn : k = n := by omega
      subst hkn
      clear hlt
      go_wp2_with fail
      go_ret
      exact ⟨rfl, hb⟩

end Go.Proofs.Ytobeeakjfkokfaa
