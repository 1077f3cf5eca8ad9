/- Paths are drawn together with a size, a time, a token: what the laws' Draw functions give. -/
import Derived.Test.YteajojhfcllodaaNet2
import Derived.Deep.RegionWith
import Derived.Deep.RegionHeld3
namespace Go.Proofs.Yteajojhfcllodaa
open Go.RowKit

/-- The function's first block is the result's, its second the reader; block P holds the path. -/
def Dr (w wr : World) (m : Nat) (z q : Pth) (P : Nat) : Prop :=
  Rd wr w.heap.size (w.heap.size + 1) m ∧ C5 wr P q ∧ C5 wr w.heap.size z ∧ Below w.heap.size w wr ∧ w.heap.size + 1 < P
section
variable {w wr : World} {m P : Nat} {z q : Pth}
theorem Dr.rd (h : Dr w wr m z q P) : Rd wr w.heap.size (w.heap.size + 1) m := h.1
theorem Dr.c5 (h : Dr w wr m z q P) : C5 wr P q := h.2.1
theorem Dr.cells (h : Dr w wr m z q P) : wr.cell? ⟨P, 0, none⟩ = some (.int .i64 q.s) ∧ wr.cell? ⟨P, 1, none⟩ = some (.int .i64 q.t) ∧ wr.cell? ⟨P, 2, none⟩ = some (.int .i64 q.r) ∧ wr.cell? ⟨P, 3, none⟩ = some (.int .i64 q.x) ∧ wr.cell? ⟨P, 4, none⟩ = some (.int .i64 q.d) := h.2.1.1
theorem Dr.res (h : Dr w wr m z q P) : C5 wr w.heap.size z := h.2.2.1
theorem Dr.below (h : Dr w wr m z q P) : Below w.heap.size w wr := h.2.2.2.1
theorem below_far {w a b : World} {rb : Nat} (h : Below w.heap.size w a) (hg : a.grownBy b (some rb)) (hr : w.heap.size ≤ rb) : Below w.heap.size w b :=
  h.trans ⟨hg.os, hg.tape, hg.output, hg.size, fun k hk => hg.block k (Nat.lt_of_lt_of_le hk h.size) (by intro e; injection e; omega)⟩
theorem Dr.far {w1 : World} {j : Nat} (h : Dr w wr m z q P) (hr : Rd w1 w.heap.size (w.heap.size + 1) (m + j)) (hg : wr.grownBy w1 (some (w.heap.size + 1))) : Dr w w1 (m + j) z q P := by
  obtain ⟨_, hP, hR, hB, hlt⟩ := h
  exact ⟨hr, hP.far hg (by omega), hR.far hg (by omega), below_far hB hg (by omega), hlt⟩
theorem Dr.drew (h : Dr w wr m z q P) : Dr w wr.drew m z q P := by
  obtain ⟨hr, hP, hR, hB, hlt⟩ := h
  exact ⟨hr.drewN 1, hP.drew, hR.drew, hB.drew, hlt⟩
theorem Dr.alloc (h : Dr w wr m z q P) (o : Obj) : Dr w (wr.alloc o) m z q P := by
  obtain ⟨hr, hP, hR, hB, hlt⟩ := h
  exact ⟨hr.alloc o, hP.alloc o, hR.alloc o, hB.alloc hB.size o, hlt⟩
/-- The result is stored. -/
theorem Dr.stored (h : Dr w wr m z q P) (u : Pth) :
    Dr w (((((wr.setCell ⟨w.heap.size, 0, none⟩ (.int .i64 u.s)).setCell ⟨w.heap.size, 1, none⟩ (.int .i64 u.t)).setCell ⟨w.heap.size, 2, none⟩ (.int .i64 u.r)).setCell ⟨w.heap.size, 3, none⟩ (.int .i64 u.x)).setCell ⟨w.heap.size, 4, none⟩ (.int .i64 u.d)) m u q P := by
  obtain ⟨hr, hP, hR, hB, hlt⟩ := h
  have h1 : ∀ j : Nat, (⟨w.heap.size, j, none⟩ : Addr).block ≠ w.heap.size + 1 := fun j => by show w.heap.size ≠ _; omega
  have h2 : ∀ j : Nat, (⟨w.heap.size, j, none⟩ : Addr).block ≠ P := fun j => by show w.heap.size ≠ P; omega
  have h4 : ∀ j : Nat, w.heap.size ≤ (⟨w.heap.size, j, none⟩ : Addr).block := fun j => Nat.le_refl _
  exact ⟨((((hr.store (h4 0) (h1 0) _).store (h4 1) (h1 1) _).store (h4 2) (h1 2) _).store (h4 3) (h1 3) _).store (h4 4) (h1 4) _,
    ((((hP.other (h2 0) _).other (h2 1) _).other (h2 2) _).other (h2 3) _).other (h2 4) _, hR.set u,
    ((((hB.setCell (h4 0) _).setCell (h4 1) _).setCell (h4 2) _).setCell (h4 3) _).setCell (h4 4) _, hlt⟩
end

def DrNum (w : World) (m : Nat) (z q : Pth) (P k : Nat) (lo hi : Int) (e : Ending) (w' : World) : Prop :=
  ∃ v : Int, e = .returned (.int .i64 v) ∧ lo ≤ v ∧ v ≤ hi ∧ Dr w w' (m + k) z q P
theorem dr_num {w wr : World} {m P k : Nat} {z q : Pth} {lo hi : Int} {f : FuncId} {args : Array Value} (h : Dr w wr m z q P) (hc : Calls Try.prog f args wr (Drawn wr w.heap.size (w.heap.size + 1) m k lo hi)) : Calls Try.prog f args wr (DrNum w m z q P k lo hi) :=
  hc.mono fun _ _ ⟨v, he, h0, h1, hr, hg⟩ => ⟨v, he, h0, h1, h.far hr hg⟩

theorem pick_drawn {B : Nat} (w : World) (rb n : Nat) (m : Int) (h : Rd w B rb n) (hn : n ≤ 1000000000) (hm : 1 ≤ m) (hm' : m ≤ 1000000) :
    Calls Try.prog 34 #[.pointer (some ⟨rb, 0, none⟩), .int .i64 m] w (Drawn w B rb n 1 0 (m - 1)) :=
  (pick_any w rb n m h hn hm hm').mono fun _ _ ⟨k, he, h0, h1, hr, hg⟩ => ⟨k, he, h0, by omega, hr, hg⟩

/-- A path was drawn: the code's world is as it was. -/
def DrewPath (w : World) (e : Ending) (w' : World) : Prop :=
  ∃ q : Pth, e = .returned (.agg #[.int .i64 q.s, .int .i64 q.t, .int .i64 q.r, .int .i64 q.x, .int .i64 q.d]) ∧ Bd q ∧ Below w.heap.size w w'
/-- A path and a number were drawn. -/
def DrewPathNum (w : World) (e : Ending) (w' : World) : Prop :=
  ∃ (q : Pth) (n : Int), e = .returned (.tuple #[.agg #[.int .i64 q.s, .int .i64 q.t, .int .i64 q.r, .int .i64 q.x, .int .i64 q.d], .int .i64 n]) ∧ Bd q ∧ -20000 ≤ n ∧ n ≤ 20000 ∧ Below w.heap.size w w'
/-- A path and three numbers were drawn. -/
def DrewPathNum3 (w : World) (e : Ending) (w' : World) : Prop :=
  ∃ (q : Pth) (n m k : Int), e = .returned (.tuple #[.agg #[.int .i64 q.s, .int .i64 q.t, .int .i64 q.r, .int .i64 q.x, .int .i64 q.d], .int .i64 n, .int .i64 m, .int .i64 k]) ∧ Bd q ∧ Below w.heap.size w w'

/-- The walk's beginning: a block for the result, the code opened, a path drawn. -/
theorem dr_start {w w1 w2 : World} {o : Obj} {m : Nat} (ho : w1 = ((w.alloc (.cells #[.int .i64 0, .int .i64 0, .int .i64 0, .int .i64 0, .int .i64 0] 24)).alloc o)) (hr : Rd w2 w.heap.size (w.heap.size + 1) m) (hg : w1.grownBy w2 (some (w.heap.size + 1))) (q : Pth) :
    Dr w (w2.alloc (.cells #[.int .i64 q.s, .int .i64 q.t, .int .i64 q.r, .int .i64 q.x, .int .i64 q.d] 24)) m pzero q w2.heap.size := by
  subst ho
  have hs := hg.size
  simp at hs
  have hR := ((C5.made w pzero 24).alloc o).far (rb := w.heap.size + 1) hg (by omega)
  have hB : Below w.heap.size w w2 := below_far (((Below.refl _ _).alloc (Nat.le_refl _) _).alloc (by simp) _) hg (by omega)
  exact ⟨hr.alloc _, C5.made w2 q _, hR.alloc _, hB.alloc hB.size _, by omega⟩

set_option maxHeartbeats 1000000 in
theorem drawClose_any (w : World) (a : Option Addr) (len cap : Nat) (zs : List Int) (h : IsRow .u8 w a len cap zs) :
    Calls Try.prog 27 #[.slice a len cap] w (DrewPath w) := by
  go_enter Try.func27, Try.ntmps27
  go_wp2_with fail
  refine (open_any w _ a len cap zs h (h.alloc _) (by simp)).mono ?_
  rintro e w1 ⟨o, rfl, rfl, hr⟩
  simp only [World.size_alloc] at hr
  go_wp2_with fail
  refine (net_any _ _ 0 hr (by omega)).mono ?_
  rintro e w2 ⟨q, rfl, hq, hr2, hg⟩
  have hs := hg.size
  simp at hs
  have hR := ((C5.made w pzero 24).alloc o).far (rb := w.heap.size + 1) hg (by omega)
  have hB : Below w.heap.size w w2 := below_far (((Below.refl _ _).alloc (Nat.le_refl _) _).alloc (by simp) _) hg (by omega)
  obtain ⟨⟨r0, r1, r2, r3, r4⟩, rf⟩ := id hR
  go_wp2
  refine bodyPost_ret (v := .agg #[.int .i64 q.s, .int .i64 q.t, .int .i64 q.r, .int .i64 q.x, .int .i64 q.d]) (by simp [results, Try.results27, go_sem, r0, r1, r2, r3, r4]) rfl ⟨q, rfl, hq, ?_⟩
  exact ((((hB.setCell (Nat.le_refl _) _).setCell (Nat.le_refl _) _).setCell (Nat.le_refl _) _).setCell (Nat.le_refl _) _).setCell (Nat.le_refl _) _

set_option maxHeartbeats 2000000 in
theorem drawReceive_any (w : World) (a : Option Addr) (len cap : Nat) (zs : List Int) (h : IsRow .u8 w a len cap zs) :
    Calls Try.prog 19 #[.slice a len cap] w (DrewPathNum w) := by
  go_enter Try.func19, Try.ntmps19
  go_wp2_with fail
  refine (open_any w _ a len cap zs h (h.alloc _) (by simp)).mono ?_
  rintro e w1 ⟨o, rfl, rfl, hr⟩
  simp only [World.size_alloc] at hr
  go_wp2_with fail
  refine (net_any _ _ 0 hr (by omega)).mono ?_
  rintro e w2 ⟨q, rfl, hq, hr2, hg⟩
  have hD := dr_start rfl hr2 hg q
  obtain ⟨⟨c0, c1, c2, c3, c4⟩, cf⟩ := hD.c5
  obtain ⟨⟨r0, r1, r2, r3, r4⟩, rf⟩ := hD.res
  go_wp2_with fail
  go_region_with (first
    | (go_at_call 37; (with_reducible refine (dr_num hD (size_any _ _ _ hD.rd (by omega))).mono ?_); rintro e wx ⟨y, rfl, hy0, hy1, hD⟩; obtain ⟨⟨c0, c1, c2, c3, c4⟩, cf⟩ := hD.c5; obtain ⟨⟨r0, r1, r2, r3, r4⟩, rf⟩ := hD.res)
    | (go_at_call 37; (with_reducible refine (dr_num hD.drew (size_any _ _ _ hD.drew.rd (by omega))).mono ?_); rintro e wx ⟨y, rfl, hy0, hy1, hD⟩; obtain ⟨⟨c0, c1, c2, c3, c4⟩, cf⟩ := hD.c5; obtain ⟨⟨r0, r1, r2, r3, r4⟩, rf⟩ := hD.res))
  all_goals go_wp2
  all_goals
    refine bodyPost_ret (v := .tuple #[.agg #[.int .i64 q.s, .int .i64 q.t, .int .i64 q.r, .int .i64 q.x, .int .i64 q.d], .int .i64 y]) (by simp [results, Try.results19, go_sem, r0, r1, r2, r3, r4]) rfl ⟨q, _, rfl, hq, by omega, by omega, ?_⟩
    exact (hD.stored q).below

set_option maxHeartbeats 4000000 in
theorem drawTick_any (w : World) (a : Option Addr) (len cap : Nat) (zs : List Int) (h : IsRow .u8 w a len cap zs) :
    Calls Try.prog 15 #[.slice a len cap] w (DrewPathNum w) := by
  go_enter Try.func15, Try.ntmps15
  go_wp2_with fail
  refine (open_any w _ a len cap zs h (h.alloc _) (by simp)).mono ?_
  rintro e w1 ⟨o, rfl, rfl, hr⟩
  simp only [World.size_alloc] at hr
  go_wp2_with fail
  refine (net_any _ _ 0 hr (by omega)).mono ?_
  rintro e w2 ⟨q, rfl, hq, hr2, hg⟩
  have hD := dr_start rfl hr2 hg q
  obtain ⟨⟨c0, c1, c2, c3, c4⟩, cf⟩ := hD.c5
  obtain ⟨⟨r0, r1, r2, r3, r4⟩, rf⟩ := hD.res
  go_wp2_with fail
  refine (dr_num hD (pick_drawn _ _ _ 3 hD.rd (by omega) (by omega) (by omega))).mono ?_
  rintro e w3 ⟨v, rfl, hv0, hv1, hD⟩
  obtain ⟨⟨c0, c1, c2, c3, c4⟩, cf⟩ := hD.c5
  obtain ⟨⟨r0, r1, r2, r3, r4⟩, rf⟩ := hD.res
  obtain ⟨hqd0, hqd1⟩ := hq.2.2.2.2
  by_cases hv : 0 < v
  · go_wp2_with fail
    go_region_held3 (fun w' => w'.cell? ⟨w2.heap.size, 0, none⟩ = some (.int .i64 q.s) ∧ w'.cell? ⟨w2.heap.size, 1, none⟩ = some (.int .i64 q.t) ∧ w'.cell? ⟨w2.heap.size, 2, none⟩ = some (.int .i64 q.r) ∧ w'.cell? ⟨w2.heap.size, 3, none⟩ = some (.int .i64 q.x) ∧ w'.cell? ⟨w2.heap.size, 4, none⟩ = some (.int .i64 q.d))
      (first | (with_reducible exact hD.cells) | (with_reducible exact hD.drew.cells) | (with_reducible exact (hD.stored _).cells) | fail)
      (first
      | (go_at_call 34; (with_reducible refine (dr_num hD (pick_drawn _ _ _ _ hD.rd (by omega) (by omega) (by omega))).mono ?_); rintro e wx ⟨y, rfl, hy0, hy1, hD⟩; obtain ⟨⟨c0, c1, c2, c3, c4⟩, cf⟩ := hD.c5; obtain ⟨⟨r0, r1, r2, r3, r4⟩, rf⟩ := hD.res)
      | (go_at_call 34; (with_reducible refine (dr_num hD.drew (pick_drawn _ _ _ _ hD.drew.rd (by omega) (by omega) (by omega))).mono ?_); rintro e wx ⟨y, rfl, hy0, hy1, hD⟩; obtain ⟨⟨c0, c1, c2, c3, c4⟩, cf⟩ := hD.c5; obtain ⟨⟨r0, r1, r2, r3, r4⟩, rf⟩ := hD.res))
    all_goals go_wp2
    all_goals
      have hw : IntKind.i64.wrap (IntKind.i64.wrap (q.d + y) - 2) = q.d + y - 2 := by rw [IntWalk.i64_in (q.d + y) (by omega), IntWalk.i64_in (q.d + y - 2) (by omega)]
      refine bodyPost_ret (v := .tuple #[.agg #[.int .i64 q.s, .int .i64 q.t, .int .i64 q.r, .int .i64 q.x, .int .i64 q.d], .int .i64 (q.d + y - 2)]) (by simp [results, Try.results15, go_sem, r0, r1, r2, r3, r4, hw]) rfl ⟨q, _, rfl, hq, by omega, by omega, ?_⟩
      exact (hD.stored q).below
  · go_wp2_with fail
    go_region_with (first
      | (go_at_call 33; (with_reducible refine (dr_num hD (time_any _ _ _ hD.rd (by omega))).mono ?_); rintro e wx ⟨y, rfl, hy0, hy1, hD⟩; obtain ⟨⟨c0, c1, c2, c3, c4⟩, cf⟩ := hD.c5; obtain ⟨⟨r0, r1, r2, r3, r4⟩, rf⟩ := hD.res)
      | (go_at_call 33; (with_reducible refine (dr_num hD.drew (time_any _ _ _ hD.drew.rd (by omega))).mono ?_); rintro e wx ⟨y, rfl, hy0, hy1, hD⟩; obtain ⟨⟨c0, c1, c2, c3, c4⟩, cf⟩ := hD.c5; obtain ⟨⟨r0, r1, r2, r3, r4⟩, rf⟩ := hD.res))
    all_goals go_wp2
    all_goals
      refine bodyPost_ret (v := .tuple #[.agg #[.int .i64 q.s, .int .i64 q.t, .int .i64 q.r, .int .i64 q.x, .int .i64 q.d], .int .i64 y]) (by simp [results, Try.results15, go_sem, r0, r1, r2, r3, r4]) rfl ⟨q, _, rfl, hq, by omega, by omega, ?_⟩
      exact (hD.stored q).below

set_option maxHeartbeats 1000000 in
theorem drawSend_any (w : World) (a : Option Addr) (len cap : Nat) (zs : List Int) (h : IsRow .u8 w a len cap zs) :
    Calls Try.prog 23 #[.slice a len cap] w (DrewPathNum w) := by
  have hR := C5.made w pzero 24
  go_enter Try.func23, Try.ntmps23
  go_wp2_with fail
  refine (drawReceive_any _ a len cap zs (h.alloc _)).mono ?_
  rintro e w1 ⟨q, n, rfl, hq, hn0, hn1, hb⟩
  have hs := hb.size
  simp at hs
  have hR := hR.same (hb.block w.heap.size (by simp))
  have hB : Below w.heap.size w w1 := ((Below.refl _ _).alloc (Nat.le_refl _) _).trans (hb.mono (by simp))
  obtain ⟨⟨r0, r1, r2, r3, r4⟩, rf⟩ := id hR
  go_wp2
  refine bodyPost_ret (v := .tuple #[.agg #[.int .i64 q.s, .int .i64 q.t, .int .i64 q.r, .int .i64 q.x, .int .i64 q.d], .int .i64 n]) (by simp [results, Try.results23, go_sem, r0, r1, r2, r3, r4]) rfl ⟨q, n, rfl, hq, hn0, hn1, ?_⟩
  exact ((((hB.setCell (Nat.le_refl _) _).setCell (Nat.le_refl _) _).setCell (Nat.le_refl _) _).setCell (Nat.le_refl _) _).setCell (Nat.le_refl _) _

end Go.Proofs.Yteajojhfcllodaa
