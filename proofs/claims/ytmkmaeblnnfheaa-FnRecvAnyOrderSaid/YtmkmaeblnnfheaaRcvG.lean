/- What is read at the end: the piece that is all of the text is taken out. -/
import Derived.Test.YtmkmaeblnnfheaaRcvD
import Derived.Test.YtmkmaeblnnfheaaMg4
import Derived.Deep.Cut
namespace Go.Proofs.Ytmkmaeblnnfheaa
open Go.RowKit
attribute [local irreducible] Go.wpQuiet

theorem run_clear_pc (w : World) (ty : TypeId) {g c : Nat} (hc : ∀ j, j < 2 → (w.cell? ⟨g, 0 + j, none⟩).isSome = true) (hf : ∀ j, j < 2 → w.frozen? ⟨g, 0 + j, none⟩ = false) :
    (Builtin.clear_ #[56] ty #[.slice (some ⟨g, 0, none⟩) 1 c]).run Try.prog w = .ok (.tuple #[]) (w.setCells g 0 [.int .i64 0, .string ⟨#[]⟩]) := by
  have hzc : (Builtin.zeroCells (Value.cells (.agg #[.int .i64 0, .string (⟨#[]⟩ : ByteArray)])) 1).toList = [.int .i64 0, .string (⟨#[]⟩ : ByteArray)] := by
    simp [Builtin.zeroCells, Value.cells]
    rfl
  have hv : ∀ w, (zeroValue 92).run Try.prog w = .ok (.agg #[.int .i64 0, .string (⟨#[]⟩ : ByteArray)]) w := by
    intro w
    have hz : Try.t92.zero = some (.agg #[.int .i64 0, .string (⟨#[]⟩ : ByteArray)]) := by kernel_rfl
    simp [zeroValue, hz]
  have hst := run_storeCells_cells (P := Try.prog) g 0 [.int .i64 0, .string (⟨#[]⟩ : ByteArray)] 0 w (by simpa using hc) (by simpa using hf) (by intro v hv'; simp only [List.mem_cons, List.not_mem_nil, or_false] at hv'; rcases hv' with rfl | rfl <;> rfl)
  simp only [Nat.add_zero] at hst
  simp [Builtin.clear_, run_underlying Try.underlying56, hv, hzc, hst]

set_option maxRecDepth 100000 in
set_option maxHeartbeats 2000000 in
theorem del_one {g c B S : Nat} {p : Pc} (w : World) (hI : PcIn w B S (some ⟨g, 0, none⟩) 1 c [p]) :
    Calls Try.prog 81 #[.slice (some ⟨g, 0, none⟩) 1 c, .int .i64 0, .int .i64 1] w fun e w' => (∃ A' c', e = .returned (.slice A' 0 c')) ∧ Touch w w' g (g + 1) := by
  have hc := hI.cap.1
  have c1 : (1 : Int) ≤ (c : Int) := by omega
  have c0 : (0 : Int) ≤ (c : Int) := by omega
  have hown : Hid (w.ownsRow 0 92 2 (.slice (some ⟨g, 0, none⟩) 0 c) 0 []) := by
    rcases (hI.2.own (by omega)).2 with ⟨e, _⟩ | ⟨g', c', cur, e, _, hblk, _, hm, hz, _⟩
    · cases e
    · cases e
      exact ⟨rfl, .inr ⟨g, c, cur, rfl, Nat.zero_le _, hblk, Nat.zero_le _, hm, hz, by simp⟩⟩
  have hgl : g < w.heap.size := by
    rcases hown.out.2 with ⟨e, _⟩ | ⟨g', c', cur, e, _, hblk, _⟩
    · cases e
    · cases e
      exact (Array.getElem?_eq_some_iff.1 hblk).1
  obtain ⟨i0, hi0, hz0, hz1, hz2⟩ := info_parts info_pc
  have HC := hid_of hc
  clear hI hc
  go_enter Try.func81, Try.ntmps81
  go_wp2_with fail
  refine wp_region_up_tail 6 (by kernel_rfl) (by kernel_rfl) ?_
  simp only [List.take_succ_cons, List.take_zero, List.drop_succ_cons, List.drop_zero]
  repeat (quiet_step (fail))
  refine wpQuiet_nil ?_
  intro w1 hb1
  have hown1 : Hid (w1.ownsRow 0 92 2 (.slice (some ⟨g, 0, none⟩) 0 c) 0 []) := by
    rcases hown.out.2 with ⟨e, _⟩ | ⟨g', c', cur, e, _, hblk, _, hm, hz, _⟩
    · cases e
    · cases e
      exact ⟨rfl, .inr ⟨g, c, cur, rfl, Nat.zero_le _, (hb1.block g hgl).trans hblk, Nat.zero_le _, hm, hz, by simp⟩⟩
  have ht1 := Touch.of_below hb1 g (g + 1)
  have hs1 := hb1.size
  clear hown hb1
  refine wpList_append_fits_any w1 rfl _ _ _ rfl 0 92 i0 2 Try.underlying56 hi0 hz1 g 0 c [] rfl hown1.out _ 0 _ [] rfl rfl ?_ (fun _ _ j u e => by simp at e) (fun _ e => by cases e) (by omega) fun w2 hown2 hgr => ?_
  · intro e
    first | (cases e; done) | (split at e <;> cases e)
  have ht2 : Touch w w2 g (g + 1) := ht1.trans ⟨hgr.os, hgr.tape, hgr.output, hgr.size, fun k hk hb => hgr.block k hk (by intro e; injection e with e; omega)⟩
  have hs2 := hgr.size
  have hcur : ∃ v0 v1, w2.cell? ⟨g, 0, none⟩ = some v0 ∧ w2.cell? ⟨g, 1, none⟩ = some v1 ∧ ∀ j, w2.frozen? ⟨g, j, none⟩ = false := by
    rcases hown2.2 with ⟨e, _⟩ | ⟨g', c', cur, e, _, hblk, _, hm, hz, _⟩
    · cases e
    · cases e
      have h0 : 0 < cur.size := by have := HC.out; omega
      have h1 : 1 < cur.size := by have := HC.out; omega
      refine ⟨cur[0], cur[1], ?_, ?_, fun j => frozen_of_row w2 g j _ _ hblk⟩
      · exact (cell_of_row _ _ 0 _ _ _ hblk).trans (Array.getElem?_eq_getElem h0)
      · exact (cell_of_row _ _ 1 _ _ _ hblk).trans (Array.getElem?_eq_getElem h1)
  obtain ⟨v0, v1, x0, x1, xf⟩ := hcur
  clear hown1 hown2 hgr ht1
  have hclr := fun (ty : TypeId) => run_clear_pc (c := c) w2 ty (g := g) (fun j hj => by rcases (show j = 0 ∨ j = 1 from by omega) with rfl | rfl <;> simp [x0, x1]) (fun j _ => xf _)
  have hclr1 := fun (ty : TypeId) => run_clear_pc (c := 1) w2 ty (g := g) (fun j hj => by rcases (show j = 0 ∨ j = 1 from by omega) with rfl | rfl <;> simp [x0, x1]) (fun j _ => xf _)
  go_wp2_with fail
  all_goals
    go_ret
    refine ⟨⟨_, _, rfl⟩, ?_⟩
    try simp only [World.setCells]
    repeat refine Touch.setCell ?_ (by dsimp only; omega) (by dsimp only; omega) _
    exact ht2

end Go.Proofs.Ytmkmaeblnnfheaa
