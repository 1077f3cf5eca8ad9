/- The reference's removal of numbers. -/
import Derived.Test.YtmkmaeblnnfheaaMg1
namespace Go.Proofs.Ytmkmaeblnnfheaa
open Go.RowKit

/-- The slice at the head of block g is one's own. -/
def OwnR (w : World) (B g n c : Nat) (L : List Rg) : Prop := L.length = n ∧ w.ownsRow B 40 2 (.slice (some ⟨g, 0, none⟩) n c) n (rcells L) ∧ g < w.heap.size
section
variable {w w' : World} {B g n c : Nat} {L : List Rg}
theorem OwnR.in_ (h : OwnR w B g n c L) : RngIn w B w.heap.size (some ⟨g, 0, none⟩) n c L := by
  obtain ⟨A', c', e', hr⟩ := RngIn.of_own h.2.1
  cases e'
  exact hr
theorem OwnR.below (h : OwnR w B g n c L) (hb : Below w.heap.size w w') : OwnR w' B g n c L := by
  refine ⟨h.1, ⟨h.2.1.1, ?_⟩, Nat.lt_of_lt_of_le h.2.2 hb.size⟩
  rcases h.2.1.2 with e | ⟨g', c', cur, e, h1, h2, h3⟩
  · exact .inl e
  · cases e
    exact .inr ⟨g, c, cur, rfl, h1, (hb.block g h.2.2).trans h2, h3⟩
theorem OwnR.ge (h : OwnR w B g n c L) : B ≤ g := by
  rcases h.2.1.2 with ⟨e, _⟩ | ⟨g', c', cur, e, h1, _⟩
  · cases e
  · cases e
    exact h1
end
theorem ownR_empty {w : World} {B g : Nat} (h : w.heap[g]? = some (.cells #[] 40 (0, 0))) (hB : B ≤ g) : OwnR w B g 0 0 [] :=
  ⟨rfl, ⟨rfl, .inr ⟨g, 0, #[], rfl, hB, h, Nat.le_refl _, by unfold maxLen; omega, rfl, rfl⟩⟩, (Array.getElem?_eq_some_iff.1 h).1⟩
theorem below_grown_new {w W w2 : World} {B gs : Nat} (h : Below B w W) (hB : B ≤ w.heap.size) (hg : W.grownBy w2 (some gs)) (hgs : B ≤ gs) : Below B w w2 :=
  ⟨hg.os.trans h.os, hg.tape.trans h.tape, hg.output.trans h.output, Nat.le_trans h.size hg.size, fun k hk => (hg.block k (Nat.lt_of_lt_of_le hk (Nat.le_trans hB h.size)) (by intro e; injection e with e; omega)).trans (h.block k hk)⟩
theorem cell_two {w W w2 : World} {b j gs : Nat} {v : Value} (hb : Below w.heap.size w W) (hg : W.grownBy w2 (some gs)) (hlt : b < w.heap.size) (hne : b ≠ gs) (hc : w.cell? ⟨b, j, none⟩ = some v) : w2.cell? ⟨b, j, none⟩ = some v :=
  (World.cell?_of_block (w := W) (a := ⟨b, j, none⟩) (hg.block b (Nat.lt_of_lt_of_le hlt hb.size) (by intro e; injection e with e; exact hne e))).trans ((hb.cell (p := ⟨b, j, none⟩) hlt).trans hc)

/-- append, at a step of a region that draws its order: one range onto ranges of one's own. -/
theorem step_snoc {ops : Array Oper} {o : Oper} {a : Act} {w : World} {K : Act → World → Prop} {Q : Exit → Act → World → Prop} {E : Prop}
    (hgd : o.guard = none) (s x : Operand) (ho : o.op = .call { callee := .builtin .append, args := #[s, x], argTypes := #[23, 23] })
    (B gs ns cs : Nat) (L : List Rg) (hs : a.eval s = .slice (some ⟨gs, 0, none⟩) ns cs) (hown : OwnR w B gs ns cs L) (hbase : B ≤ w.heap.size)
    (gx : Nat) (hx : a.eval x = .slice (some ⟨gx, 0, none⟩) 1 1) (y : Rg) (hc0 : w.cell? ⟨gx, 0, none⟩ = some (.int .i64 y.lo)) (hc1 : w.cell? ⟨gx, 1, none⟩ = some (.int .i64 y.hi)) (hb : ns ≤ 1000000)
    (h : ∀ g cap w', OwnR w' B g (ns + 1) cap (L ++ [y]) → w.grownBy w' (some gs) → K (a.put o.dst (.slice (some ⟨g, 0, none⟩) (ns + 1) cap)) w') :
    if Region.wanted o (yielded ops a.tmps) = true then Oper.wp Try.prog o a w K Q else E := by
  obtain ⟨i0, hi0, hz0, hz1, hz2⟩ := info_parts info_rng
  refine step_append_lies w hgd s x _ ho B 40 i0 (.agg #[.int .i64 0, .int .i64 0]) 2 16 Try.underlying23 hi0 hz0 hz1 hz2 rfl (by decide) _ ns (rcells L) hs hown.2.1 ⟨gx, 0, none⟩ 1 1 (rcells [y]) hx rfl ?_ (rcells_one [y]) (by omega) (by unfold maxLen; omega) (by omega) hbase _ rfl fun g cap w' h1 h2 _ h4 => ?_
  · intro j u hj
    rw [Addr.add_lit, Nat.zero_add]
    have e : rcells [y] = [.int .i64 y.lo, .int .i64 y.hi] := rfl
    rw [e] at hj
    match j, hj with
    | 0, hj => simp at hj; rw [hc0, hj]
    | 1, hj => simp at hj; rw [hc1, hj]
    | j + 2, hj => simp at hj
  · rw [← rcells_append] at h1
    exact h g cap w' ⟨by rw [List.length_append, hown.1]; rfl, h1, h4⟩ h2

set_option maxRecDepth 100000 in
set_option maxHeartbeats 16000000 in
theorem l2Remove_any (A : Option Addr) (n c : Nat) (L : List Rg) (w : World) (lo hi : Int) (h : RngAt w A n L) (hn : n ≤ 100000) (hlo : -1000000 ≤ lo ∧ lo ≤ 1000000) (hhi : -1000000 ≤ hi ∧ hi ≤ 1000000) :
    Calls Try.prog 85 #[.slice A n c, .int .i64 lo, .int .i64 hi] w (GotRng w (remove L lo hi)) := by
  have hl := hid_of h.1
  obtain ⟨hlo0, hlo1⟩ := hlo
  obtain ⟨hhi0, hhi1⟩ := hhi
  go_enter Try.func85, Try.ntmps85
  go_wp2_with fail
  go_loopw [7, 8] (fun s i wr => ∃ (k g1 c1 m : Nat), i = .int .i64 (k : Nat) ∧ s = .slice (some ⟨g1, 0, none⟩) m c1 ∧ k ≤ n ∧ m ≤ 2 * k ∧ OwnR wr w.heap.size g1 m c1 (remove (L.take k) lo hi) ∧ Below w.heap.size w wr) (fun _ i _ => n - (intOf i).toNat)
  case atStart => exact ⟨0, w.heap.size, 0, 0, rfl, rfl, Nat.zero_le _, by omega, ownR_empty (heap_alloc_new _ _) (Nat.le_refl _), ba (Below.refl _ _) _⟩
  case round =>
    obtain ⟨k, g1, c1, m, rfl, rfl, hk, hm, hO, hb⟩ := hrel
    have hsr := hb.size
    have hg1 := hO.ge
    by_cases hlt : k < n
    · obtain ⟨g, off, rfl, hgl, hc⟩ := (h.below hb).2 (by omega)
      obtain ⟨_, _, e', hgw, _⟩ := h.2 (by omega)
      cases e'
      have hne : g ≠ g1 := by omega
      obtain ⟨d0, d1⟩ := hc k hlt
      have hnx := remove_next (L := L) (k := k) (lo := lo) (hi := hi) (by rw [hl.out]; exact hlt)
      obtain ⟨⟨rl, rh⟩, hx⟩ : ∃ x, x = rth L k := ⟨_, rfl⟩
      rw [← hx] at d0 d1 hnx
      dsimp only at d0 d1
      have HNX := hid_of hnx
      clear hc hx hnx
      obtain ⟨mv, hmv⟩ : ∃ v, (if lo - 1 < rh then lo - 1 else rh) = v := ⟨_, rfl⟩
      obtain ⟨xv, hxv⟩ : ∃ v, (if rl < hi + 1 then hi + 1 else rl) = v := ⟨_, rfl⟩
      have HMV : Hid (min rh (lo - 1) = mv) := by unfold Hid; rw [← hmv]; split <;> omega
      have HXV : Hid (max rl (hi + 1) = xv) := by unfold Hid; rw [← hxv]; split <;> omega
      have hw1 : IntKind.i64.wrap (lo - 1) = lo - 1 := IntWalk.i64_in _ (by omega)
      have hw2 : IntKind.i64.wrap (hi + 1) = hi + 1 := IntWalk.i64_in _ (by omega)
      have k0 : (0 : Int) ≤ (k : Int) := Int.natCast_nonneg _
      have k1 : (k : Int) < (n : Int) := by omega
      by_cases t1 : rl < lo
      · by_cases t2 : hi < rh
        · rw [cut_yy t1 t2, ← List.append_assoc] at HNX
          dsimp only at HNX
          rw [HMV.out, HXV.out] at HNX
          go_wp2_with fail
          go_region_law (first
            | (refine step_snoc (by rfl) _ _ (by rfl) w.heap.size g1 m c1 _ (by rfl) (hO.below (by go_grown)) (by simp; omega) _ (by rfl) ⟨rl, mv⟩ (by simp) (by simp) (by omega) ?_; intro g2 cap2 w2 hO2 hG2; have d0 := cell_two (w := wr) (by go_grown) hG2 hgl hne d0; have d1 := cell_two (w := wr) (by go_grown) hG2 hgl hne d1; have hb2 := below_grown_new (w := w) (hb.trans (Below.mono (B := wr.heap.size) (by go_grown) hsr)) (Nat.le_refl _) hG2 hg1)
            | fail)
          all_goals have hg2 := hO2.ge
          all_goals have hs2 := hb2.size
          all_goals have hgl2 := World.block_lt_of_cell? _ _ d0
          all_goals go_wp2_with fail
          all_goals
            go_region_law (first
            | (refine step_snoc (by rfl) _ _ (by rfl) w.heap.size g2 (m + 1) cap2 _ (by rfl) (hO2.below (by go_grown)) (by simp; omega) _ (by rfl) ⟨xv, rh⟩ (by simp) (by simp) (by omega) ?_; intro g3 cap3 w3 hO3 hG3; have hb3 := below_grown_new (w := w) (hb2.trans (Below.mono (B := w2.heap.size) (by go_grown) hs2)) (Nat.le_refl _) hG3 hg2)
            | fail)
          all_goals go_wp2_with fail
          all_goals
            go_roundw
            case rel => exact ⟨k + 1, g3, cap3, m + 1 + 1, by go_num, rfl, by omega, by omega, by rw [HNX.out]; exact hO3, hb3⟩
            case measure => simp [intOf]; omega
        · rw [cut_yn t1 t2] at HNX
          dsimp only at HNX
          rw [HMV.out] at HNX
          go_wp2_with fail
          go_region_law (first
            | (refine step_snoc (by rfl) _ _ (by rfl) w.heap.size g1 m c1 _ (by rfl) (hO.below (by go_grown)) (by simp; omega) _ (by rfl) ⟨rl, mv⟩ (by simp) (by simp) (by omega) ?_; intro g2 cap2 w2 hO2 hG2; have d0 := cell_two (w := wr) (by go_grown) hG2 hgl hne d0; have d1 := cell_two (w := wr) (by go_grown) hG2 hgl hne d1; have hb2 := below_grown_new (w := w) (hb.trans (Below.mono (B := wr.heap.size) (by go_grown) hsr)) (Nat.le_refl _) hG2 hg1)
            | fail)
          all_goals go_wp2_with fail
          all_goals
            go_roundw
            case rel => exact ⟨k + 1, g2, cap2, m + 1, by go_num, rfl, by omega, by omega, by rw [HNX.out]; exact hO2, hb2⟩
            case measure => simp [intOf]; omega
      · by_cases t2 : hi < rh
        · rw [cut_ny t1 t2] at HNX
          dsimp only at HNX
          rw [HXV.out] at HNX
          go_wp2_with fail
          go_region_law (first
            | (refine step_snoc (by rfl) _ _ (by rfl) w.heap.size g1 m c1 _ (by rfl) (hO.below (by go_grown)) (by simp; omega) _ (by rfl) ⟨xv, rh⟩ (by simp) (by simp) (by omega) ?_; intro g2 cap2 w2 hO2 hG2; have hb2 := below_grown_new (w := w) (hb.trans (Below.mono (B := wr.heap.size) (by go_grown) hsr)) (Nat.le_refl _) hG2 hg1)
            | fail)
          all_goals go_wp2_with fail
          all_goals
            go_roundw
            case rel => exact ⟨k + 1, g2, cap2, m + 1, by go_num, rfl, by omega, by omega, by rw [HNX.out]; exact hO2, hb2⟩
            case measure => simp [intOf]; omega
        · rw [cut_nn t1 t2, List.append_nil] at HNX
          go_wp2_with fail
          go_roundw
          case rel => exact ⟨k + 1, g1, c1, m, by go_num, rfl, by omega, by omega, by rw [HNX.out]; exact hO, hb⟩
          case measure => simp [intOf]; omega
    · have hkn : k = n := by omega
      subst hkn
      clear hlt
      rw [List.take_of_length_le (by rw [hl.out]; exact Nat.le_refl _)] at hO
      have hm2 := hO.1
      go_wp2_with fail
      go_ret
      exact ⟨_, c1, by rw [hm2]; rfl, by rw [hm2]; exact hO.in_, hb⟩

end Go.Proofs.Ytmkmaeblnnfheaa
