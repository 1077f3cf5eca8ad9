/- Paths are drawn together with a token, a time and a timeout. -/
import Derived.Test.YteajojhfcllodaaDrawP
import Derived.Test.YteajojhfcllodaaTreeP
namespace Go.Proofs.Yteajojhfcllodaa
open Go.RowKit
attribute [local irreducible] Go.wpQuiet

/-- The element at k of five numbers of which the last is x. -/
def el5 (x : Int) (k : Nat) : Int := [(0 : Int), 1, 999, 1000, x].getD k 0
theorem cell5 {x : Int} {k : Nat} (hk : k < 5) (w : World) : (w.alloc (.cells #[.int .i64 0, .int .i64 1, .int .i64 999, .int .i64 1000, .int .i64 x] 3)).cell? ⟨w.heap.size, k, none⟩ = some (.int .i64 (el5 x k)) := by
  rw [cell_of_row _ _ k _ _ _ (heap_alloc_new w _)]
  match k, hk with
  | 0, _ => rfl
  | 1, _ => rfl
  | 2, _ => rfl
  | 3, _ => rfl
  | 4, _ => rfl
theorem Dr.pick5 {w wr : World} {m P : Nat} {z q : Pth} (h : Dr w wr m z q P) (hm : m ≤ 1000000) :
    Calls Try.prog 34 #[.pointer (some ⟨w.heap.size + 1, 0, none⟩), .int .i64 5] wr fun e w' => ∃ k : Nat, e = .returned (.int .i64 (k : Int)) ∧ k < 5 ∧ Dr w w' (m + 1) z q P ∧ wr.grownBy w' (some (w.heap.size + 1)) :=
  (pick_any wr (w.heap.size + 1) m 5 h.rd (by omega) (by omega) (by omega)).mono fun _ _ ⟨v, he, h0, h1, hr, hg⟩ => by
    obtain ⟨k, rfl⟩ := Int.eq_ofNat_of_zero_le h0
    exact ⟨k, he, by omega, h.far hr hg, hg⟩
theorem Dr.drawnN {w wr : World} {m P : Nat} {z q : Pth} (h : Dr w wr m z q P) (j : Nat) : Dr w { wr with drawn := j } m z q P :=
  ⟨h.1, h.2.1, h.2.2.1, ⟨h.below.os, h.below.tape, h.below.output, h.below.size, h.below.block⟩, h.2.2.2.2⟩
theorem results_p3 {w : World} {b : Nat} {q : Pth} {fn : Func} {t s u v : Tmp} (h : fn.results = #[.cell t 24, .tmp s, .tmp u, .tmp v]) {tmps : Array Value} (hp : tmps.getD t undef = .pointer (some ⟨b, 0, none⟩)) {x y z : Value} (hs : tmps.getD s undef = x) (hu : tmps.getD u undef = y) (hv : tmps.getD v undef = z) (hx : C5 w b q) :
    (results fn tmps).run Try.prog w = .ok (.tuple #[.agg #[.int .i64 q.s, .int .i64 q.t, .int .i64 q.r, .int .i64 q.x, .int .i64 q.d], x, y, z]) w := by
  obtain ⟨⟨h0, h1, h2, h3, h4⟩, _⟩ := hx
  have hp' : tmps[t]?.getD undef = .pointer (some ⟨b, 0, none⟩) := by simpa using hp
  have hs' : tmps[s]?.getD undef = x := by simpa using hs
  have hu' : tmps[u]?.getD undef = y := by simpa using hu
  have hv' : tmps[v]?.getD undef = z := by simpa using hv
  simp [results, h, hp', hs', hu', hv', go_sem, h0, h1, h2, h3, h4]

theorem hid_of' {p : Prop} (h : p) : Hid p := h
theorem row_far {w w' : World} {gb rb : Nat} {x : Int} (h : ∀ k, k < 5 → w.cell? ⟨gb, k, none⟩ = some (.int .i64 (el5 x k))) (hg : w.grownBy w' (some rb)) (hne : rb < gb) : ∀ k, k < 5 → w'.cell? ⟨gb, k, none⟩ = some (.int .i64 (el5 x k)) := fun k hk =>
  hg.cell (h k hk) (by intro e; injection e with e; have : gb = rb := e; omega)
theorem row_set {w : World} {b gb : Nat} {x : Int} (h : ∀ k, k < 5 → w.cell? ⟨gb, k, none⟩ = some (.int .i64 (el5 x k))) (hne : b ≠ gb) (u : Pth) : ∀ k, k < 5 → (((((w.setCell ⟨b, 0, none⟩ (.int .i64 u.s)).setCell ⟨b, 1, none⟩ (.int .i64 u.t)).setCell ⟨b, 2, none⟩ (.int .i64 u.r)).setCell ⟨b, 3, none⟩ (.int .i64 u.x)).setCell ⟨b, 4, none⟩ (.int .i64 u.d)).cell? ⟨gb, k, none⟩ = some (.int .i64 (el5 x k)) := fun k hk => by
  have e : ∀ (v : World) (j : Nat) (c : Value), (v.setCell ⟨b, j, none⟩ c).cell? ⟨gb, k, none⟩ = v.cell? ⟨gb, k, none⟩ := fun v j c => World.cell?_setCell_other v ⟨b, j, none⟩ ⟨gb, k, none⟩ c (by intro e; injection e with e _; exact hne e)
  rw [e, e, e, e, e]
  exact h k hk

set_option linter.unusedVariables false in
set_option maxRecDepth 100000 in
set_option maxHeartbeats 8000000 in
theorem drawProbe_any (w : World) (a : Option Addr) (len cap : Nat) (zs : List Int) (h : IsRow .u8 w a len cap zs) :
    Calls Try.prog 11 #[.slice a len cap] w (DrewPathNum3 w) := by
  go_enter Try.func11, Try.ntmps11
  go_wp2_with fail
  refine (open_any w _ a len cap zs h (h.alloc _) (by simp)).mono ?_
  rintro e w1 ⟨o, rfl, rfl, hr⟩
  simp only [World.size_alloc] at hr
  go_wp2_with fail
  refine (net_any _ _ 0 hr (by omega)).mono ?_
  rintro e w2 ⟨q, rfl, hq, hr2, hg⟩
  have hD := dr_start rfl hr2 hg q
  go_wp2_with fail
  refine (dr_num hD (token_any _ _ _ hD.rd (by omega))).mono ?_
  rintro e w3 ⟨tk, rfl, ht0, ht1, hD⟩
  go_wp2_with fail
  refine (dr_num hD (time_any _ _ _ hD.rd (by omega))).mono ?_
  rintro e w4 ⟨nw, rfl, hw0, hw1, hD⟩
  obtain ⟨m, hm, hD⟩ : ∃ m, m ≤ 1000 ∧ Dr w w4 m pzero q w2.heap.size := ⟨_, by omega, hD⟩
  obtain ⟨P, hP⟩ : ∃ P, w2.heap.size = P := ⟨_, rfl⟩
  rw [hP] at hD ⊢
  have hD := hid_of' hD
  clear hP hr hr2 hg h
  go_wp2_with fail
  have inst : Nonempty (In (fun y => C5 y P q)) := ⟨⟨w4, hD.out.c5⟩⟩
  have u0 := fun z : In (fun y => C5 y P q) => z.h.1.1
  have u1 := fun z : In (fun y => C5 y P q) => z.h.1.2.1
  have u2 := fun z : In (fun y => C5 y P q) => z.h.1.2.2.1
  have u3 := fun z : In (fun y => C5 y P q) => z.h.1.2.2.2.1
  have u4 := fun z : In (fun y => C5 y P q) => z.h.1.2.2.2.2
  refine wp_region_tree (fun y => C5 y P q) (fun y => Dr w y m pzero q P) (.one [0, 1, 2, 3, 7] 4 (.two [5] 6 (.one [] 8 (.one [9, 10] 11 (.last [12, 13, 14]))) 8 (.two [] 6 (.one [9, 10] 11 (.last [12, 13, 14])) 11 (.one [12, 13] 6 (.last [9, 10, 14]))))) (by kernel_rfl) (by kernel_rfl) (fun y hy => hy.c5) (fun j => hD.out.drawnN j) ?_
  simp only [TreeW, TurnsAt, opsAt, List.filterMap_cons, List.filterMap_nil, List.getElem?_cons_zero, List.getElem?_cons_succ]
  repeat (quiet_step (fail))
  refine wpQuiet_nil ?_
  refine ⟨_, rfl, rfl, turns_step2 fun Z hZ w5 h5 => ?_⟩
  clear inst u0 u1 u2 u3 u4 hD
  go_simp
  with_reducible refine (dr_num h5 (pick_drawn _ _ _ 99 h5.rd (by omega) (by omega) (by omega))).mono ?_
  rintro e w6 ⟨y, rfl, hy0, hy1, h6⟩
  have h6 := hid_of' h6
  clear h5
  obtain ⟨x, hx⟩ : ∃ x, 1 + y = x := ⟨_, rfl⟩
  have hwx : IntKind.i64.wrap (1 + y) = x := by rw [hx]; exact IntWalk.i64_in _ (by omega)
  refine hZ (fun y => C5 y P q) (fun y => y = w6) _ _ rfl (fun y e => by rw [e]; exact h6.out.c5) (fun _ hx => hx) ?_
  clear hZ Z hx
  have inst : Nonempty (In (fun y => C5 y P q)) := ⟨⟨w6, h6.out.c5⟩⟩
  repeat (quiet_step (fail))
  refine wpQuiet_nil ?_
  clear inst
  refine ⟨?six, ?eight⟩
  case six =>
    refine ⟨_, rfl, rfl, turns_step2 fun Z hZ w7 h7 => ?_⟩
    subst h7
    have hSZ : w7.heap.size = w7.heap.size := rfl
    go_simp
    have HB : Hid (∀ k, k < 5 → (w7.alloc (.cells #[.int .i64 0, .int .i64 1, .int .i64 999, .int .i64 1000, .int .i64 x] 3)).cell? ⟨w7.heap.size, k, none⟩ = some (.int .i64 (el5 x k))) := hid_of' fun k hk => cell5 hk w7
    have h8 := hid_of' (h6.out.alloc (.cells #[.int .i64 0, .int .i64 1, .int .i64 999, .int .i64 1000, .int .i64 x] 3))
    have hgl : w.heap.size + 1 < w7.heap.size := h6.out.rd.lt
    obtain ⟨gb, hgb⟩ : ∃ b, w7.heap.size = b := ⟨_, rfl⟩
    generalize hw8 : World.alloc w7 _ = w8 at *
    rw [hgb] at HB hgl ⊢
    clear hgb hw8 hSZ
    refine hZ (fun y => C5 y P q ∧ ∀ k, k < 5 → y.cell? ⟨gb, k, none⟩ = some (.int .i64 (el5 x k))) (fun y => y = w8) _ _ rfl (fun y e => by rw [e]; exact ⟨h8.out.c5, HB.out⟩) (fun _ hx => hx.1) ?_
    clear hZ Z h6
    -- second pick
    refine wpQuiet_nil ?_
    refine ⟨_, rfl, rfl, turns_step2 fun Z hZ w9 h9 => ?_⟩
    subst h9
    go_simp
    with_reducible refine (h8.out.pick5 (by omega)).mono ?_
    rintro e w10 ⟨k, rfl, hk, h10, hg⟩
    have h10 := hid_of' h10
    have hB := hid_of' (row_far HB.out hg (by omega))
    clear HB h8
    have HB := hB
    clear hB
    have hgb := hg.size
    clear hg
    refine hZ (fun y => C5 y P q ∧ ∀ k, k < 5 → y.cell? ⟨gb, k, none⟩ = some (.int .i64 (el5 x k))) (fun y => y = w10) _ _ rfl (fun y e => by rw [e]; exact ⟨h10.out.c5, HB.out⟩) (fun _ hx => hx) ?_
    clear hZ Z
    have hk0 : (0 : Int) ≤ (k : Int) := by omega
    have hk1 : (k : Int) < 5 := by omega
    have inst : Nonempty (In (fun y => C5 y P q ∧ ∀ k, k < 5 → y.cell? ⟨gb, k, none⟩ = some (.int .i64 (el5 x k)))) := ⟨⟨w10, h10.out.c5, HB.out⟩⟩
    have v0 := fun z : In (fun y => C5 y P q ∧ ∀ k, k < 5 → y.cell? ⟨gb, k, none⟩ = some (.int .i64 (el5 x k))) => z.h.2 k hk
    repeat (quiet_step (fail))
    refine wpQuiet_nil ?_
    clear inst v0
    refine ⟨_, rfl, rfl, turns_step2 fun Z hZ w10 h7 => ?_⟩
    subst h7
    obtain ⟨⟨r0, r1, r2, r3, r4⟩, rf⟩ := h10.out.res
    go_simp
    have h11 := hid_of' (h10.out.stored q)
    have HB2 := row_set HB.out (show w.heap.size ≠ gb by omega) q
    generalize hWW : World.setCell (World.setCell (World.setCell (World.setCell (World.setCell w10 _ _) _ _) _ _) _ _) _ _ = w11 at *
    refine hZ (fun y => y = w11) (fun y => y = w11) _ _ rfl (fun _ hx => hx) (fun y e => by rw [e]; exact ⟨h11.out.c5, HB2⟩) ?_
    clear hZ Z r0 r1 r2 r3 r4 rf hWW h10
    have inst : Nonempty (In (fun y => y = w11)) := ⟨⟨w11, rfl⟩⟩
    repeat (quiet_step (fail))
    refine wpQuiet_nil ?_
    clear inst
    refine seq_last (C := fun y => y = w11) fun wz ez => ?_
    subst ez
    go_wp2_with fail
    refine bodyPost_ret (results_p3 rfl rfl rfl rfl rfl h11.out.res) rfl ?_
    exact ⟨q, tk, nw, _, rfl, hq, h11.out.below⟩
  case eight =>
    refine ⟨_, rfl, rfl, turns_step2 fun Z hZ w7 h7 => ?_⟩
    subst h7
    go_simp
    with_reducible refine (h6.out.pick5 (by omega)).mono ?_
    rintro e w8 ⟨k, rfl, hk, h8, hg⟩
    have h8 := hid_of' h8
    clear hg h6
    refine hZ (fun y => C5 y P q) (fun y => y = w8) _ _ rfl (fun y e => by rw [e]; exact h8.out.c5) (fun _ hx => hx) ?_
    clear hZ Z
    refine wpQuiet_nil ?_
    refine ⟨?six, ?eleven⟩
    case six =>
      refine ⟨_, rfl, rfl, turns_step2 fun Z hZ w9 h9 => ?_⟩
      subst h9
      have hSZ : w9.heap.size = w9.heap.size := rfl
      go_simp
      have HB : Hid (∀ k, k < 5 → (w9.alloc (.cells #[.int .i64 0, .int .i64 1, .int .i64 999, .int .i64 1000, .int .i64 x] 3)).cell? ⟨w9.heap.size, k, none⟩ = some (.int .i64 (el5 x k))) := hid_of' fun k hk => cell5 hk w9
      have h10 := hid_of' (h8.out.alloc (.cells #[.int .i64 0, .int .i64 1, .int .i64 999, .int .i64 1000, .int .i64 x] 3))
      have hgl : w.heap.size + 1 < w9.heap.size := h8.out.rd.lt
      obtain ⟨gb, hgb⟩ : ∃ b, w9.heap.size = b := ⟨_, rfl⟩
      generalize hw10 : World.alloc w9 _ = w10 at *
      rw [hgb] at HB hgl ⊢
      clear hgb hw10 hSZ
      refine hZ (fun y => C5 y P q ∧ ∀ k, k < 5 → y.cell? ⟨gb, k, none⟩ = some (.int .i64 (el5 x k))) (fun y => y = w10) _ _ rfl (fun y e => by rw [e]; exact ⟨h10.out.c5, HB.out⟩) (fun _ hx => hx.1) ?_
      clear hZ Z h8
      have hk0 : (0 : Int) ≤ (k : Int) := by omega
      have hk1 : (k : Int) < 5 := by omega
      have inst : Nonempty (In (fun y => C5 y P q ∧ ∀ k, k < 5 → y.cell? ⟨gb, k, none⟩ = some (.int .i64 (el5 x k)))) := ⟨⟨w10, h10.out.c5, HB.out⟩⟩
      have v0 := fun z : In (fun y => C5 y P q ∧ ∀ k, k < 5 → y.cell? ⟨gb, k, none⟩ = some (.int .i64 (el5 x k))) => z.h.2 k hk
      repeat (quiet_step (fail))
      refine wpQuiet_nil ?_
      clear inst v0
      refine ⟨_, rfl, rfl, turns_step2 fun Z hZ w10 h7 => ?_⟩
      subst h7
      obtain ⟨⟨r0, r1, r2, r3, r4⟩, rf⟩ := h10.out.res
      go_simp
      have h11 := hid_of' (h10.out.stored q)
      have HB2 := row_set HB.out (show w.heap.size ≠ gb by omega) q
      generalize hWW : World.setCell (World.setCell (World.setCell (World.setCell (World.setCell w10 _ _) _ _) _ _) _ _) _ _ = w11 at *
      refine hZ (fun y => y = w11) (fun y => y = w11) _ _ rfl (fun _ hx => hx) (fun y e => by rw [e]; exact ⟨h11.out.c5, HB2⟩) ?_
      clear hZ Z r0 r1 r2 r3 r4 rf hWW h10
      have inst : Nonempty (In (fun y => y = w11)) := ⟨⟨w11, rfl⟩⟩
      repeat (quiet_step (fail))
      refine wpQuiet_nil ?_
      clear inst
      refine seq_last (C := fun y => y = w11) fun wz ez => ?_
      subst ez
      go_wp2_with fail
      refine bodyPost_ret (results_p3 rfl rfl rfl rfl rfl h11.out.res) rfl ?_
      exact ⟨q, tk, nw, _, rfl, hq, h11.out.below⟩
    case eleven =>
      refine ⟨_, rfl, rfl, turns_step2 fun Z hZ w8 h7 => ?_⟩
      subst h7
      obtain ⟨⟨r0, r1, r2, r3, r4⟩, rf⟩ := h8.out.res
      go_simp
      have h9 := hid_of' (h8.out.stored q)
      generalize hWW : World.setCell (World.setCell (World.setCell (World.setCell (World.setCell w8 _ _) _ _) _ _) _ _) _ _ = w9 at *
      refine hZ (fun y => C5 y P q) (fun y => y = w9) _ _ rfl (fun y e => by rw [e]; exact h9.out.c5) (fun _ hx => hx) ?_
      clear hZ Z r0 r1 r2 r3 r4 rf hWW h8
      have inst : Nonempty (In (fun y => C5 y P q)) := ⟨⟨w9, h9.out.c5⟩⟩
      repeat (quiet_step (fail))
      refine wpQuiet_nil ?_
      clear inst
      refine ⟨_, rfl, rfl, turns_step2 fun Z hZ w10 h10 => ?_⟩
      subst h10
      have hSZ : w10.heap.size = w10.heap.size := rfl
      go_simp
      have HB : Hid (∀ k, k < 5 → (w10.alloc (.cells #[.int .i64 0, .int .i64 1, .int .i64 999, .int .i64 1000, .int .i64 x] 3)).cell? ⟨w10.heap.size, k, none⟩ = some (.int .i64 (el5 x k))) := hid_of' fun k hk => cell5 hk w10
      have h11 := hid_of' (h9.out.alloc (.cells #[.int .i64 0, .int .i64 1, .int .i64 999, .int .i64 1000, .int .i64 x] 3))
      have hgl : w.heap.size + 1 < w10.heap.size := h9.out.rd.lt
      obtain ⟨gb, hgb⟩ : ∃ b, w10.heap.size = b := ⟨_, rfl⟩
      generalize hw11 : World.alloc w10 _ = w11 at *
      rw [hgb] at HB hgl ⊢
      clear hgb hw11 hSZ
      refine hZ (fun y => C5 y P q ∧ ∀ k, k < 5 → y.cell? ⟨gb, k, none⟩ = some (.int .i64 (el5 x k))) (fun y => y = w11) _ _ rfl (fun y e => by rw [e]; exact ⟨h11.out.c5, HB.out⟩) (fun _ hx => hx.1) ?_
      clear hZ Z h9
      have hk0 : (0 : Int) ≤ (k : Int) := by omega
      have hk1 : (k : Int) < 5 := by omega
      have inst : Nonempty (In (fun y => C5 y P q ∧ ∀ k, k < 5 → y.cell? ⟨gb, k, none⟩ = some (.int .i64 (el5 x k)))) := ⟨⟨w11, h11.out.c5, HB.out⟩⟩
      have v0 := fun z : In (fun y => C5 y P q ∧ ∀ k, k < 5 → y.cell? ⟨gb, k, none⟩ = some (.int .i64 (el5 x k))) => z.h.2 k hk
      repeat (quiet_step (fail))
      refine wpQuiet_nil ?_
      clear inst v0
      refine seq_last (C := fun y => y = w11) fun wz ez => ?_
      subst ez
      go_wp2_with fail
      refine bodyPost_ret (results_p3 rfl rfl rfl rfl rfl h11.out.res) rfl ?_
      exact ⟨q, tk, nw, _, rfl, hq, h11.out.below⟩

end Go.Proofs.Yteajojhfcllodaa
