/- A part is acknowledged, by the reference. -/
import Derived.Test.YtmkmaeblnnfheabSndP
import Derived.Test.YtmkmaeblnnfheabRngE
namespace Go.Proofs.Ytmkmaeblnnfheab
open Go.RowKit
attribute [local irreducible] Go.wpQuiet

theorem Below.of_mono {a b c : World} (h : Below a.heap.size a b) (k : Below b.heap.size b c) : Below a.heap.size a c := h.trans (k.mono h.size)
theorem last_v_s {o : Int} {d : ByteArray} {f : Bool} {ls : Int} (h : Pt.last ⟨o, d, f⟩ = ls) (w : World) (ho : -1000000 ≤ o ∧ o ≤ 1000000) (hd : d.size ≤ 1000000) :
    Calls Try.prog 79 #[.agg #[.int .i64 o, .string d, .bool f]] w fun e w' => e = .returned (.int .i64 ls) ∧ ∃ x, w' = w.alloc x := h ▸ last_s o d f w ho hd
theorem l2Add_v {L M : List Rg} {lo hi : Int} (hx : specAdd L lo hi = M) (A : Option Addr) (c : Nat) (w : World) (h : RngAt w A L.length L) (hn : L.length ≤ 100000) (hlo : -1000000 ≤ lo ∧ lo ≤ 1000000) (hhi : -1000000 ≤ hi ∧ hi ≤ 1000000)
    (hbd : ∀ r, r ∈ L → (-1000000 ≤ r.lo ∧ r.lo ≤ 1000000) ∧ -1000000 ≤ r.hi ∧ r.hi ≤ 1000000) :
    Calls Try.prog 80 #[.slice A L.length c, .int .i64 lo, .int .i64 hi] w (GotRng w M) := hx ▸ l2Add_any A L.length c L w lo hi h hn hlo hhi hbd

set_option linter.unusedVariables false in
set_option maxRecDepth 100000 in
set_option maxHeartbeats 4000000 in
theorem l32Ack_w (d : ByteArray) (f : Bool) (l n : Int) (LA LB : List Rg) (A : Option Addr) (ca : Nat) (B : Option Addr) (cb : Nat) (o : Int) (dp : ByteArray) (fp : Bool) (ls : Int) (w : World) (hA : RngAt w A LA.length LA) (hB : RngAt w B LB.length LB) (eA : A = none → ca = 0) (eB : B = none → cb = 0) (hn : LA.length ≤ 100000) (hn' : LB.length ≤ 100000) (HLS : Hid (Pt.last ⟨o, dp, fp⟩ = ls)) (ho : -1000 ≤ o ∧ o ≤ 1000) (hdp : dp.size ≤ 1000) (hls : -10000 ≤ ls ∧ ls ≤ 10000) (LA2 : List Rg) (HAD : Hid (specAdd LA o ls = LA2)) (HBD : Hid (∀ r, r ∈ LA → (-1000000 ≤ r.lo ∧ r.lo ≤ 1000000) ∧ -1000000 ≤ r.hi ∧ r.hi ≤ 1000000)) :
    Calls Try.prog 71 #[.agg #[.string d, .bool f, .int .i64 l, .int .i64 n, .slice A LA.length ca, .slice B LB.length cb], .agg #[.int .i64 o, .string dp, .bool fp]] w fun e w' => (∃ v, e = .returned v ∧ GotSd w ⟨d, f, l, n, LA2, remove LB o ls⟩ v w') ∧ Below w.heap.size w w' := by
  obtain ⟨ho0, ho1⟩ := ho
  obtain ⟨hls0, hls1⟩ := hls
  have z := ((Own6.new (d := d) (f := f) (l := l) (n := n) (A := A) (na := LA.length) (ca := ca) (B := B) (nb := LB.length) (cb := cb) w).alloc (.cells #[.int .i64 o, .string dp, .bool fp] 29)).alloc (.cells #[.string (⟨#[]⟩ : ByteArray), .bool false, .int .i64 0, .int .i64 0, .slice none 0 0, .slice none 0 0] 25)
  have q := (Own3.new (w.alloc (.cells #[.string d, .bool f, .int .i64 l, .int .i64 n, .slice A LA.length ca, .slice B LB.length cb] 25)) o dp fp).alloc (.cells #[.string (⟨#[]⟩ : ByteArray), .bool false, .int .i64 0, .int .i64 0, .slice none 0 0, .slice none 0 0] 25)
  have r := Own6.new (d := (⟨#[]⟩ : ByteArray)) (f := false) (l := 0) (n := 0) (A := none) (na := 0) (ca := 0) (B := none) (nb := 0) (cb := 0) ((w.alloc (.cells #[.string d, .bool f, .int .i64 l, .int .i64 n, .slice A LA.length ca, .slice B LB.length cb] 25)).alloc (.cells #[.int .i64 o, .string dp, .bool fp] 29))
  rw [show (w.alloc (.cells #[.string d, .bool f, .int .i64 l, .int .i64 n, .slice A LA.length ca, .slice B LB.length cb] 25)).heap.size = w.heap.size + 1 from by simp] at q
  rw [show ((w.alloc (.cells #[.string d, .bool f, .int .i64 l, .int .i64 n, .slice A LA.length ca, .slice B LB.length cb] 25)).alloc (.cells #[.int .i64 o, .string dp, .bool fp] 29)).heap.size = w.heap.size + 1 + 1 from by simp] at r
  have hW0 : Below w.heap.size w _ := (((Below.refl _ w).alloc (Nat.le_refl _) (.cells #[.string d, .bool f, .int .i64 l, .int .i64 n, .slice A LA.length ca, .slice B LB.length cb] 25)).alloc (by simp) (.cells #[.int .i64 o, .string dp, .bool fp] 29)).alloc (by simp; omega) (.cells #[.string (⟨#[]⟩ : ByteArray), .bool false, .int .i64 0, .int .i64 0, .slice none 0 0, .slice none 0 0] 25)
  have hsz : (((w.alloc (.cells #[.string d, .bool f, .int .i64 l, .int .i64 n, .slice A LA.length ca, .slice B LB.length cb] 25)).alloc (.cells #[.int .i64 o, .string dp, .bool fp] 29)).alloc (.cells #[.string (⟨#[]⟩ : ByteArray), .bool false, .int .i64 0, .int .i64 0, .slice none 0 0, .slice none 0 0] 25)).heap.size = w.heap.size + 1 + 1 + 1 := by simp
  go_enter Try.func71, Try.ntmps71
  have HZ0 := hid_of z
  have HQ0 := hid_of q
  have HR0 := hid_of r
  have hw0 := hW0
  have hs0 := Nat.le_of_eq hsz.symm
  obtain ⟨⟨z0, z1, z2, z3, z4, z5⟩, zf⟩ := HZ0.out
  clear z q r
  go_wp2_with (first
    | (go_at_call 69; (with_reducible refine (copy_s d f l n LA LB A ca B cb _ (hA.below hw0) (hB.below hw0) eA eB (by omega) (by omega)).mono ?_); rintro e w1 ⟨⟨_, rfl, A1, c1, B1, c2', rfl, hI1, hJ1, hap⟩, hb1⟩; have HZ1 := hid_of (HZ0.out.under hb1 (by omega)); have HQ1 := hid_of (HQ0.out.under hb1 (by omega)); have HR1 := hid_of (HR0.out.under hb1 (by omega)); have hw1 := hw0.trans (hb1.mono hw0.size); have hs1 : w.heap.size + 1 + 1 + 1 ≤ w1.heap.size := (by have := hb1.size; omega); clear z0 z1 z2 z3 z4 z5 zf hb1))
  generalize hW8 : World.alloc w1 _ = W8
  have hz8 : Own6 W8 w.heap.size d f l n A LA.length ca B LB.length cb := by rw [← hW8]; exact HZ1.out.alloc _
  have hq8 : Own3 W8 (w.heap.size + 1) o dp fp := by rw [← hW8]; exact HQ1.out.alloc _
  have hr8 : Own6 W8 (w.heap.size + 1 + 1) (⟨#[]⟩ : ByteArray) false 0 0 none 0 0 none 0 0 := by rw [← hW8]; exact HR1.out.alloc _
  have ho8 : Own6 W8 w1.heap.size d f l n A1 LA.length c1 B1 LB.length c2' := by rw [← hW8]; exact Own6.new w1
  have hw8 : Below w.heap.size w W8 := by rw [← hW8]; exact ba hw1 _
  have hs8 : W8.heap.size = w1.heap.size + 1 := by rw [← hW8]; simp
  clear hW8 hI1 hJ1 hap
  have HZ8 := hid_of hz8
  have HQ8 := hid_of hq8
  have HR8 := hid_of hr8
  have HO8 := hid_of ho8
  clear hz8 hq8 hr8 ho8
  obtain ⟨⟨z0, z1, z2, z3, z4, z5⟩, zf⟩ := HZ8.out
  obtain ⟨⟨q0, q1, q2⟩, qf⟩ := HQ8.out
  obtain ⟨⟨o0, o1, o2, o3, o4, o5⟩, of⟩ := HO8.out
  have ne1 : ¬ (w1.heap.size = w.heap.size) := by omega
  have ne2 : ¬ (w.heap.size = w1.heap.size) := by omega
  have ne3 : ¬ (w1.heap.size = w.heap.size + 1) := by omega
  have ne4 : ¬ (w.heap.size + 1 = w1.heap.size) := by omega
  go_region_held3 (fun w' => w'.cell? ⟨w.heap.size, 4, none⟩ = some (.slice A LA.length ca) ∧ w'.cell? ⟨w.heap.size + 1, 0, none⟩ = some (.int .i64 o) ∧ w'.cell? ⟨w.heap.size + 1, 1, none⟩ = some (.string dp) ∧ w'.cell? ⟨w.heap.size + 1, 2, none⟩ = some (.bool fp)) (go_keep) ((first
    | (go_at_call 79; (with_reducible refine (last_v_s HLS.out _ ⟨by omega, by omega⟩ (by omega)).mono ?_); rintro e' w5 ⟨rfl, hxw5⟩; have hbw5 : Below W8.heap.size W8 w5 := (by obtain ⟨y, rfl⟩ := hxw5; go_grown); have hsw5 := hbw5.size; have HZw5 := hid_of (HZ8.out.under hbw5 (by omega)); have HQw5 := hid_of (HQ8.out.under hbw5 (by omega)); have HRw5 := hid_of (HR8.out.under hbw5 (by omega)); have HOw5 := hid_of (HO8.out.under hbw5 (by omega)); have hww5 := hw8.trans (hbw5.mono hw8.size); clear z0 z1 z2 z3 z4 z5 zf q0 q1 q2 qf o0 o1 o2 o3 o4 o5 of; clear hxw5; obtain ⟨⟨z0, z1, z2, z3, z4, z5⟩, zf⟩ := HZw5.out; obtain ⟨⟨q0, q1, q2⟩, qf⟩ := HQw5.out; obtain ⟨⟨o0, o1, o2, o3, o4, o5⟩, of⟩ := HOw5.out)
    | (go_at_call 80; (with_reducible refine (l2Add_v HAD.out A ca _ (hA.below hww5) (by omega) ⟨by omega, by omega⟩ ⟨by omega, by omega⟩ HBD.out).mono ?_); rintro e' w6 ⟨A2, c2, rfl, hIw6, hbw6⟩; have hsw6 := hbw6.size; have HZw6 := hid_of (HZw5.out.under hbw6 (by omega)); have HQw6 := hid_of (HQw5.out.under hbw6 (by omega)); have HRw6 := hid_of (HRw5.out.under hbw6 (by omega)); have HOw6 := hid_of (HOw5.out.under hbw6 (by omega)); have hww6 := hww5.trans (hbw6.mono hww5.size); clear z0 z1 z2 z3 z4 z5 zf q0 q1 q2 qf o0 o1 o2 o3 o4 o5 of; obtain ⟨⟨z0, z1, z2, z3, z4, z5⟩, zf⟩ := HZw6.out; obtain ⟨⟨q0, q1, q2⟩, qf⟩ := HQw6.out; obtain ⟨⟨o0, o1, o2, o3, o4, o5⟩, of⟩ := HOw6.out)))
  all_goals
    generalize hW10 : World.setCell w6 _ _ = W10
    have hz10 : Own6 W10 w.heap.size d f l n A LA.length ca B LB.length cb := by rw [← hW10]; exact HZw6.out.other (by dsimp only; omega) _
    have hq10 : Own3 W10 (w.heap.size + 1) o dp fp := by rw [← hW10]; exact HQw6.out.other (by dsimp only; omega) _
    have hr10 : Own6 W10 (w.heap.size + 1 + 1) (⟨#[]⟩ : ByteArray) false 0 0 none 0 0 none 0 0 := by rw [← hW10]; exact HRw6.out.other (by dsimp only; omega) _
    have ho10 : Own6 W10 w1.heap.size d f l n A2 LA2.length c2 B1 LB.length c2' := by rw [← hW10]; exact HOw6.out.set4 _ _ _
    have hw10 : Below w.heap.size w W10 := by rw [← hW10]; exact hww6.setCell (by dsimp only; omega) _
    have hs10 : W10.heap.size = w6.heap.size := by rw [← hW10]; simp [World.setCell]
    have hI10 : RngIn W10 (w1.heap.size + 1) w6.heap.size A2 LA2.length c2 LA2 := by rw [← hW10]; exact (hIw6.mono (by omega) (Nat.le_refl _)).setLow (by dsimp only; omega) _
    clear hW10 hIw6 hbw5 hbw6 HZ8 HQ8 HR8 HO8 HZw5 HQw5 HRw5 HOw5 HZw6 HQw6 HRw6 HOw6 hww5 z0 z1 z2 z3 z4 z5 zf q0 q1 q2 qf o0 o1 o2 o3 o4 o5 of
    have HZ10 := hid_of hz10
    have HQ10 := hid_of hq10
    have HR10 := hid_of hr10
    have HO10 := hid_of ho10
    clear hz10 hq10 hr10 ho10
    obtain ⟨⟨z0, z1, z2, z3, z4, z5⟩, zf⟩ := HZ10.out
    obtain ⟨⟨q0, q1, q2⟩, qf⟩ := HQ10.out
    obtain ⟨⟨o0, o1, o2, o3, o4, o5⟩, of⟩ := HO10.out
  all_goals go_wp2_with fail
  all_goals
    go_region_held3 (fun w' => w'.cell? ⟨w.heap.size, 5, none⟩ = some (.slice B LB.length cb) ∧ w'.cell? ⟨w.heap.size + 1, 0, none⟩ = some (.int .i64 o) ∧ w'.cell? ⟨w.heap.size + 1, 1, none⟩ = some (.string dp) ∧ w'.cell? ⟨w.heap.size + 1, 2, none⟩ = some (.bool fp)) (go_keep) ((first
      | (go_at_call 79; (with_reducible refine (last_v_s HLS.out _ ⟨by omega, by omega⟩ (by omega)).mono ?_); rintro e' w7 ⟨rfl, hxw7⟩; have hbw7 : Below W10.heap.size W10 w7 := (by obtain ⟨y, rfl⟩ := hxw7; go_grown); have hsw7 := hbw7.size; have HZw7 := hid_of (HZ10.out.under hbw7 (by omega)); have HQw7 := hid_of (HQ10.out.under hbw7 (by omega)); have HRw7 := hid_of (HR10.out.under hbw7 (by omega)); have HOw7 := hid_of (HO10.out.under hbw7 (by omega)); have hww7 := hw10.trans (hbw7.mono hw10.size); clear z0 z1 z2 z3 z4 z5 zf q0 q1 q2 qf o0 o1 o2 o3 o4 o5 of; clear hxw7; obtain ⟨⟨z0, z1, z2, z3, z4, z5⟩, zf⟩ := HZw7.out; obtain ⟨⟨q0, q1, q2⟩, qf⟩ := HQw7.out; obtain ⟨⟨o0, o1, o2, o3, o4, o5⟩, of⟩ := HOw7.out)
      | (go_at_call 76; (with_reducible refine (l2Remove_any B LB.length cb LB _ o ls (hB.below hww7) (by omega) ⟨by omega, by omega⟩ ⟨by omega, by omega⟩).mono ?_); rintro e' w9 ⟨B2, c4, rfl, hIw9, hbw9⟩; have hsw9 := hbw9.size; have HZw9 := hid_of (HZw7.out.under hbw9 (by omega)); have HQw9 := hid_of (HQw7.out.under hbw9 (by omega)); have HRw9 := hid_of (HRw7.out.under hbw9 (by omega)); have HOw9 := hid_of (HOw7.out.under hbw9 (by omega)); have hww9 := hww7.trans (hbw9.mono hww7.size); have hIA := hI10.below (Below.of_mono hbw7 hbw9); clear z0 z1 z2 z3 z4 z5 zf q0 q1 q2 qf o0 o1 o2 o3 o4 o5 of; obtain ⟨⟨z0, z1, z2, z3, z4, z5⟩, zf⟩ := HZw9.out; obtain ⟨⟨q0, q1, q2⟩, qf⟩ := HQw9.out; obtain ⟨⟨o0, o1, o2, o3, o4, o5⟩, of⟩ := HOw9.out)))
  all_goals
    generalize hW12 : World.setCell w9 _ _ = W12
    have hr12 : Own6 W12 (w.heap.size + 1 + 1) (⟨#[]⟩ : ByteArray) false 0 0 none 0 0 none 0 0 := by rw [← hW12]; exact HRw9.out.other (by dsimp only; omega) _
    have ho12 : Own6 W12 w1.heap.size d f l n A2 LA2.length c2 B2 (remove LB o ls).length c4 := by rw [← hW12]; exact HOw9.out.set5 _ _ _
    have hw12 : Below w.heap.size w W12 := by rw [← hW12]; exact hww9.setCell (by dsimp only; omega) _
    have hs12 : W12.heap.size = w9.heap.size := by rw [← hW12]; simp [World.setCell]
    have hI12 : RngIn W12 (w1.heap.size + 1) w6.heap.size A2 LA2.length c2 LA2 := by rw [← hW12]; exact hIA.setLow (by dsimp only; omega) _
    have hJ12 : RngIn W12 w6.heap.size w9.heap.size B2 (remove LB o ls).length c4 (remove LB o ls) := by rw [← hW12]; exact (hIw9.mono (by omega) (Nat.le_refl _)).setLow (by dsimp only; omega) _
    clear hW12 hIw9 hIA hI10 hbw7 hbw9 HZ10 HQ10 HR10 HO10 HZw7 HQw7 HRw7 HOw7 HZw9 HQw9 HRw9 HOw9 hww7 z0 z1 z2 z3 z4 z5 zf q0 q1 q2 qf o0 o1 o2 o3 o4 o5 of ne1 ne2 ne3 ne4
    have HR12 := hid_of hr12
    obtain ⟨⟨r0, r1, r2, r3, r4, r5⟩, rf⟩ := hr12
    obtain ⟨⟨o0, o1, o2, o3, o4, o5⟩, of⟩ := ho12
  all_goals go_wp2_with fail
  all_goals
    try simp only [Exit.inBlock, Exit.then]
    refine bodyPost_ret (results_snd rfl rfl (HR12.out.setAll d f l n A2 LA2.length c2 B2 (remove LB o ls).length c4).1) rfl ?_
    refine ⟨⟨_, rfl, A2, c2, B2, c4, rfl, ?_, ?_, ?_⟩, ?_⟩
    · refine RngIn.mono (B := w1.heap.size + 1) (S := w6.heap.size) ?_ (by omega) (by simp [World.setCell]; omega)
      repeat refine RngIn.setLow ?_ (by dsimp only; omega) _
      exact hI12
    · refine RngIn.mono (B := w6.heap.size) (S := w9.heap.size) ?_ (by omega) (by simp [World.setCell]; omega)
      repeat refine RngIn.setLow ?_ (by dsimp only; omega) _
      exact hJ12
    · exact apart_of hI12 hJ12 (.inl (Nat.le_refl _))
    · repeat refine Below.setCell ?_ (by dsimp only; omega) _
      exact hw12
end Go.Proofs.Ytmkmaeblnnfheab
