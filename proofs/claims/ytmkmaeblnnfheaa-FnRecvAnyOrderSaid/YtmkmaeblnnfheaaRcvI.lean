/- All of a text is read at once. -/
import Derived.Test.YtmkmaeblnnfheaaRcvH
import Derived.Deep.Cut
namespace Go.Proofs.Ytmkmaeblnnfheaa
open Go.RowKit
attribute [local irreducible] Go.wpQuiet

theorem PcIn.put0 {w : World} {B S g c : Nat} {p : Pc} (h : PcIn w B S (some ⟨g, 0, none⟩) 1 c [p]) (o : Int) : PcIn (w.setCell ⟨g, 0, none⟩ (.int .i64 o)) B S (some ⟨g, 0, none⟩) 1 c [⟨o, p.d⟩] := ⟨rfl, h.2.stored (by omega) 0 (.int .i64 o)⟩
theorem PcIn.put1 {w : World} {B S g c : Nat} {p : Pc} (h : PcIn w B S (some ⟨g, 0, none⟩) 1 c [p]) (d : ByteArray) : PcIn (w.setCell ⟨g, 1, none⟩ (.string d)) B S (some ⟨g, 0, none⟩) 1 c [⟨p.o, d⟩] := ⟨rfl, h.2.stored (by omega) 1 (.string d)⟩
theorem PcIn.first {w : World} {B S g c : Nat} {p : Pc} (h : PcIn w B S (some ⟨g, 0, none⟩) 1 c [p]) : w.cell? ⟨g, 0, none⟩ = some (.int .i64 p.o) ∧ w.cell? ⟨g, 1, none⟩ = some (.string p.d) ∧ (∀ j, w.frozen? ⟨g, j, none⟩ = false) ∧ B ≤ g ∧ g < S ∧ g < w.heap.size := by
  obtain ⟨g', e, h1, h2, h3, hf, hc⟩ := h.at_ (by omega)
  cases e
  obtain ⟨c0, c1⟩ := hc 0 (by omega)
  simp only [Nat.zero_mul, Nat.zero_add] at c0 c1
  exact ⟨c0, c1, hf, h1, h2, h3⟩
theorem copy_one {D : ByteArray} {R F l : Int} {A : Option Addr} {c : Nat} (w : World) (h : PcAt w A 1 [⟨0, D⟩]) (hnone : A = none → c = 0) :
    Calls Try.prog 76 #[.agg #[.int .i64 R, .slice A 1 c, .int .i64 F, .int .i64 l]] w fun e w' => ∃ g c', e = .returned (.agg #[.int .i64 R, .slice (some ⟨g, 0, none⟩) 1 c', .int .i64 F, .int .i64 l]) ∧ PcIn w' w.heap.size w'.heap.size (some ⟨g, 0, none⟩) 1 c' [⟨0, D⟩] ∧ Below w.heap.size w w' := by
  rw [← pcs_one] at h
  refine (copy_r (L := [⟨0, (D.size : Int) - 1⟩]) w h hnone (by show 1 ≤ 2000000; decide)).mono ?_
  rintro e w' ⟨A', c', rfl, hI, hb⟩
  obtain ⟨g, rfl, _⟩ := hI.at_ (by show 0 < 1; decide)
  rw [pcs_one] at hI
  exact ⟨g, c', rfl, hI, hb⟩
theorem copy_nil {R F l : Int} {A : Option Addr} {c : Nat} (w : World) (hnone : A = none → c = 0) :
    Calls Try.prog 76 #[.agg #[.int .i64 R, .slice A 0 c, .int .i64 F, .int .i64 l]] w fun e w' => ∃ A' c', e = .returned (.agg #[.int .i64 R, .slice A' 0 c', .int .i64 F, .int .i64 l]) ∧ Below w.heap.size w w' :=
  (copy_r (D := ⟨#[]⟩) (L := []) w (PcAt.nil _ _) hnone (by decide)).mono fun _ _ ⟨A', c', e, _, hb⟩ => ⟨A', c', e, hb⟩

/-- What a read of all leaves. -/
def GotRd (w : World) (D : ByteArray) (e : Ending) (w' : World) : Prop :=
  (∃ A c, e = .returned (.tuple #[.agg #[.int .i64 (D.size : Int), .slice A 0 c, .int .i64 (D.size : Int), .int .i64 30], .string D])) ∧ Below w.heap.size w w'

set_option linter.unusedVariables false in
set_option maxRecDepth 100000 in
set_option maxHeartbeats 4000000 in
theorem read_one {D : ByteArray} (hpos : 0 < D.size) (h30 : D.size ≤ 30) {A : Option Addr} {c : Nat} (w : World) (h : PcAt w A 1 [⟨0, D⟩]) (hnone : A = none → c = 0) :
    Calls Try.prog 43 #[.agg #[.int .i64 0, .slice A 1 c, .int .i64 (D.size : Int), .int .i64 30], .int .i64 30] w (GotRd w D) := by
  have hBX : Hid (Own4 ((w.alloc (.cells #[.int .i64 0, .slice A 1 c, .int .i64 (D.size : Int), .int .i64 30] 58)).alloc (.cells #[.int .i64 0, .slice none 0 0, .int .i64 0, .int .i64 0] 58)) w.heap.size 0 A 1 c (D.size : Int) 30) := hid_of ((Own4.newT _ _).alloc _)
  have hY : Hid (Own4 ((w.alloc (.cells #[.int .i64 0, .slice A 1 c, .int .i64 (D.size : Int), .int .i64 30] 58)).alloc (.cells #[.int .i64 0, .slice none 0 0, .int .i64 0, .int .i64 0] 58)) (w.heap.size + 1) 0 none 0 0 0 0) := hid_of (by have := Own4.newT (R := 0) (A := none) (n := 0) (c := 0) (F := 0) (l := 0) (w.alloc (.cells #[.int .i64 0, .slice A 1 c, .int .i64 (D.size : Int), .int .i64 30] 58)) 58; simpa using this)
  have hA := (h.alloc (.cells #[.int .i64 0, .slice A 1 c, .int .i64 (D.size : Int), .int .i64 30] 58)).alloc (.cells #[.int .i64 0, .slice none 0 0, .int .i64 0, .int .i64 0] 58)
  have hb0 : Below w.heap.size w ((w.alloc (.cells #[.int .i64 0, .slice A 1 c, .int .i64 (D.size : Int), .int .i64 30] 58)).alloc (.cells #[.int .i64 0, .slice none 0 0, .int .i64 0, .int .i64 0] 58)) := ((Below.refl _ w).alloc (Nat.le_refl _) _).alloc (by simp) _
  have hs0 : w.heap.size + 2 ≤ ((w.alloc (.cells #[.int .i64 0, .slice A 1 c, .int .i64 (D.size : Int), .int .i64 30] 58)).alloc (.cells #[.int .i64 0, .slice none 0 0, .int .i64 0, .int .i64 0] 58)).heap.size := by simp
  have HV1 : Hid (decide ((0 : Int) ≤ 30 ∧ (30 : Int) ≤ 30) = true) := hid_of (by decide)
  have hmin : (if (D.size : Int) < 30 then (D.size : Int) else 30) = (D.size : Int) := by split <;> omega
  have f1 : ((D.size : Int) == 0) = false := by rw [beq_eq_false_iff_ne]; omega
  have f2 : (D.size == 0) = false := by rw [beq_eq_false_iff_ne]; omega
  have f3 : ¬ (D.size = 0) := by omega
  have hws : IntKind.i64.wrap (D.size : Int) = (D.size : Int) := IntWalk.i64_in _ (by omega)
  have hpre : D.extract 0 D.size = D := ByteArray.extract_zero_size
  have hpost : D.extract D.size D.size = (⟨#[]⟩ : ByteArray) := by
    have : (D.extract D.size D.size).size = 0 := by rw [ByteArray.size_extract]; omega
    exact ByteArray.size_eq_zero_iff.1 this
  have hemp : (⟨#[]⟩ : ByteArray).toList.isEmpty = true := by rw [bytes_toList]; rfl
  clear h
  go_enter Try.func43, Try.ntmps43
  go_wp2_with fail
  generalize hW : World.alloc (World.alloc w _) _ = W0 at *
  clear hW
  with_reducible refine (rvalid_one hpos h30 W0 hA).mono ?_
  rintro e' w1 ⟨rfl, hb⟩
  have BX := hid_of (hBX.out.grow hb)
  have Y := hid_of (hY.out.grow hb)
  have A1 := hid_of (hA.below hb)
  have hbw := hb0.trans (hb.mono hb0.size)
  have hs : w.heap.size + 2 ≤ w1.heap.size := by have := hb.size; omega
  clear hBX hY hA hb0 hs0 hb
  obtain ⟨⟨z0, z1, z2, z3⟩, zf⟩ := BX.out
  go_wp2_with (go_at_call 55; (with_reducible refine (within_v HV1.out _).mono ?_); rintro e w9 ⟨rfl, rfl⟩)
  with_reducible refine (copy_one w1 A1.out hnone).mono ?_
  rintro e' w2 ⟨g, c', rfl, hI, hb⟩
  have hs1 := hb.size
  have BX := hid_of (BX.out.grow hb)
  have Y := hid_of (Y.out.grow hb)
  have I := hid_of hI
  have A2 := hid_of (A1.out.below hb)
  have hbw := hbw.trans (hb.mono hbw.size)
  clear hI hb A1 z0 z1 z2 z3 zf
  go_upto_region 4 with (fail)
  generalize hW : World.alloc w2 _ = w3
  obtain ⟨ob, hob⟩ : ∃ b, w2.heap.size = b := ⟨_, rfl⟩
  have hb : Below w2.heap.size w2 w3 := by rw [← hW]; exact (Below.refl _ _).alloc (Nat.le_refl _) _
  have X : Hid (Own4 w3 ob 0 (some ⟨g, 0, none⟩) 1 c' (D.size : Int) 30) := by rw [← hW, ← hob]; exact hid_of (Own4.newT _ _)
  have BX := hid_of (BX.out.grow hb)
  have Y := hid_of (Y.out.grow hb)
  have I := hid_of (I.out.below hb)
  have A3 := hid_of (A2.out.below hb)
  have hbw := hbw.trans (hb.mono hbw.size)
  have ho : ob < w3.heap.size := by rw [← hW, ← hob]; simp
  have hs3 : w.heap.size + 2 ≤ w3.heap.size := by have := hb.size; omega
  have hob1 : w1.heap.size ≤ ob := by omega
  rw [hob] at I ⊢
  clear hW A2 hb hob hs1
  obtain ⟨⟨z0, z1, z2, z3⟩, zf⟩ := BX.out
  go_wp2_with fail
  with_reducible refine (ready_one w3 A3.out).mono ?_
  rintro e' w4 ⟨rfl, hb⟩
  have X := hid_of (X.out.grow hb)
  have Y := hid_of (Y.out.grow hb)
  have I := hid_of (I.out.below hb)
  have hbw := hbw.trans (hb.mono hbw.size)
  have hs4 := hb.size
  clear z0 z1 z2 z3 zf BX A3 hb
  obtain ⟨⟨x0, x1, x2, x3⟩, xf⟩ := X.out
  obtain ⟨g0, g1, gf, hg1, hg2, hg3⟩ := I.out.first
  go_upto_region 11 with (fail)
  generalize hW : World.setCell (World.setCell w4 _ _) _ _ = w5
  have X5 : Hid (Own4 w5 ob 0 (some ⟨g, 0, none⟩) 1 c' (D.size : Int) 30) := by rw [← hW]; exact hid_of ((X.out.other (by dsimp only; omega) _).other (by dsimp only; omega) _)
  have Y5 : Hid (Own4 w5 (w.heap.size + 1) 0 none 0 0 0 0) := by rw [← hW]; exact hid_of ((Y.out.other (by dsimp only; omega) _).other (by dsimp only; omega) _)
  have I5 : Hid (PcIn w5 w1.heap.size ob (some ⟨g, 0, none⟩) 1 c' [⟨(D.size : Int), ⟨#[]⟩⟩]) := by rw [← hW]; exact hid_of ((I.out.put0 _).put1 _)
  have hb5 : Below w.heap.size w w5 := by rw [← hW]; exact (hbw.setCell (by dsimp only; omega) _).setCell (by dsimp only; omega) _
  have hs5 : w5.heap.size = w4.heap.size := by rw [← hW]; simp [World.setCell]
  clear hW x0 x1 x2 x3 xf g0 g1 gf X Y I hbw
  obtain ⟨⟨x0, x1, x2, x3⟩, xf⟩ := X5.out
  obtain ⟨g0, g1, gf, _, _, hg4⟩ := I5.out.first
  go_wp2_with fail
  with_reducible refine (del_one w5 I5.out).mono ?_
  rintro e' w6 ⟨⟨A7, c7, rfl⟩, ht⟩
  have X6 := hid_of (X5.out.touch ht (by omega))
  have Y6 := hid_of (Y5.out.touch ht (by omega))
  have hb6 : Below w.heap.size w w6 := below_touch hb5 ht (by omega) (by omega)
  clear x0 x1 x2 x3 xf g0 g1 gf X5 Y5 I5
  obtain ⟨⟨x0, x1, x2, x3⟩, xf⟩ := X6.out
  obtain ⟨⟨y0, y1, y2, y3⟩, yf⟩ := Y6.out
  go_wp2_with fail
  try simp only [Exit.inBlock, Exit.then]
  refine bodyPost_ret (results_rv rfl rfl rfl (((Y6.out.other (by dsimp only; omega) _).other (by dsimp only; omega) _).setAll _ _ _ _ _ _)) rfl ?_
  refine ⟨⟨A7, c7, rfl⟩, ?_⟩
  repeat refine Below.setCell ?_ (by dsimp only; omega) _
  exact hb6

end Go.Proofs.Ytmkmaeblnnfheaa
