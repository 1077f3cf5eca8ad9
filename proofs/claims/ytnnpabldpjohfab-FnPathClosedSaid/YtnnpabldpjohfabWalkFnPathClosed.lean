/- The walk of the law FnPathClosed. -/
import Derived.Test.YtnnpabldpjohfabDrawP
import Derived.Test.YtnnpabldpjohfabPathC
import Derived.Test.YtnnpabldpjohfabLawsPlain
namespace Go.Proofs.Ytnnpabldpjohfab
open Go.RowKit

def PC (w W : World) (P : Nat) (s t r x d : Int) : Prop := C5 W P ⟨s, t, r, x, d⟩ ∧ Below w.heap.size w W
section
variable {w W : World} {P : Nat} {s t r x d : Int}
theorem made_at {n : Nat} {T : TypeId} (h : n = W.heap.size) : C5 (W.alloc (.cells #[.int .i64 s, .int .i64 t, .int .i64 r, .int .i64 x, .int .i64 d] T)) n ⟨s, t, r, x, d⟩ := by
  subst h
  exact C5.made W ⟨s, t, r, x, d⟩ T
theorem PC.cells (h : PC w W P s t r x d) : W.cell? ⟨P, 0, none⟩ = some (.int .i64 s) ∧ W.cell? ⟨P, 1, none⟩ = some (.int .i64 t) ∧ W.cell? ⟨P, 2, none⟩ = some (.int .i64 r) ∧ W.cell? ⟨P, 3, none⟩ = some (.int .i64 x) ∧ W.cell? ⟨P, 4, none⟩ = some (.int .i64 d) := h.1.1
theorem PC.drew (h : PC w W P s t r x d) : PC w W.drew P s t r x d := ⟨h.1.drew, h.2.drew⟩
theorem PC.alloc (h : PC w W P s t r x d) (o : Obj) : PC w (W.alloc o) P s t r x d := ⟨h.1.alloc o, h.2.alloc h.2.size o⟩
theorem PC.new3 {W' : World} (h : PC w W P s t r x d) (hn : New3 W W') : PC w W' P s t r x d := by
  obtain ⟨a, b, c, rfl⟩ := hn
  exact ((h.alloc a).alloc b).alloc c
theorem pc_gives {f : FuncId} {args : Array Value} {v : Value} (h : PC w W P s t r x d) (hc : Calls Try.prog f args W fun e w' => e = .returned v ∧ New3 W w') : Calls Try.prog f args W fun e w' => e = .returned v ∧ PC w w' P s t r x d :=
  hc.mono fun _ _ ⟨he, hn⟩ => ⟨he, h.new3 hn⟩
end

set_option maxHeartbeats 16000000 in
theorem walkFnPathClosed (w : World) (a : Option Addr) (len cap : Nat) (zs : List Int) (h : IsRow .u8 w a len cap zs) :
    Calls Try.prog 10 #[.slice a len cap] w fun e w' => e = .returned (.bool true) ∧ Below w.heap.size w w' := by
  by_cases hl : 1048576 < len
  · go_enter Try.func10, Try.ntmps10
    go_wp2
    go_returns
    exact ⟨rfl, Below.refl _ _⟩
  go_enter Try.func10, Try.ntmps10
  go_wp2_with fail
  refine (drawClose_any w a len cap zs h).mono ?_
  rintro e w1 ⟨⟨s, t, r, x, d⟩, rfl, hq, hb⟩
  have hs := hb.size
  clear hq h
  dsimp only
  rcases closed_cases s t r x d with ⟨V, T⟩ | ⟨V, T, U1, U2, U3, U4, U5, U6⟩
  all_goals
    go_wp2_with (first
      | (go_at_call 28; (with_reducible refine (close_impl5 T.out _).mono ?_); rintro e w2 ⟨rfl, o1, o2, o3, rfl⟩)
      | (go_at_call 29; (with_reducible refine (close_spec5 T.out _).mono ?_); rintro e w2 ⟨rfl, o1, o2, o3, rfl⟩)
      | (go_at_call 18; (with_reducible refine (pv_spec V.out _).mono ?_); rintro e w2 ⟨rfl, o1, rfl⟩)
      | (go_at_call 12; (with_reducible refine (probe_impl5 U1.out _).mono ?_); rintro e w2 ⟨rfl, o1, o2, o3, rfl⟩)
      | (go_at_call 26; (with_reducible refine (answer_impl5 U2.out _).mono ?_); rintro e w2 ⟨rfl, o1, o2, o3, rfl⟩)
      | (go_at_call 20; (with_reducible refine (receive_impl5 U3.out _).mono ?_); rintro e w2 ⟨rfl, o1, o2, o3, rfl⟩)
      | (go_at_call 24; (with_reducible refine (send_impl5 U4.out _).mono ?_); rintro e w2 ⟨rfl, o1, o2, o3, rfl⟩)
      | (go_at_call 16; (with_reducible refine (tick_impl5 U5.out _).mono ?_); rintro e w2 ⟨rfl, o1, o2, o3, rfl⟩)
      | (go_at_call 28; (with_reducible refine (close_impl5 U6.out _).mono ?_); rintro e w2 ⟨rfl, o1, o2, o3, rfl⟩))
  · go_returns
    refine ⟨ret_bool ?_, by go_grown⟩
    rfl
  · generalize hW : World.alloc _ _ = W
    have hC : PC w W (w1.heap.size + 1 + 1 + 1 + 1) 4 t r x 0 := by
      subst hW
      refine ⟨?_, by go_grown⟩
      repeat (first | ((with_reducible refine made_at ?_); (simp; done)) | (with_reducible refine C5.alloc ?_ _))
      trace "made"
    clear hW
    obtain ⟨⟨c0, c1, c2, c3, c4⟩, cf⟩ := hC.1
    dsimp only at c0 c1 c2 c3 c4
    go_region_held3 (fun w' => w'.cell? ⟨w1.heap.size + 1 + 1 + 1 + 1, 0, none⟩ = some (.int .i64 4) ∧ w'.cell? ⟨w1.heap.size + 1 + 1 + 1 + 1, 1, none⟩ = some (.int .i64 t) ∧ w'.cell? ⟨w1.heap.size + 1 + 1 + 1 + 1, 2, none⟩ = some (.int .i64 r) ∧ w'.cell? ⟨w1.heap.size + 1 + 1 + 1 + 1, 3, none⟩ = some (.int .i64 x) ∧ w'.cell? ⟨w1.heap.size + 1 + 1 + 1 + 1, 4, none⟩ = some (.int .i64 0))
      (first | (with_reducible exact hC.cells) | (with_reducible exact hC.drew.cells) | fail)
      (first
      | (go_at_call 16; (with_reducible refine (pc_gives hC (tick_impl5 U5.out _)).mono ?_); rintro e wx ⟨rfl, hC⟩)
      | (go_at_call 28; (with_reducible refine (pc_gives hC (close_impl5 U6.out _)).mono ?_); rintro e wx ⟨rfl, hC⟩)
      | (go_at_call 16; (with_reducible refine (pc_gives hC.drew (tick_impl5 U5.out _)).mono ?_); rintro e wx ⟨rfl, hC⟩)
      | (go_at_call 28; (with_reducible refine (pc_gives hC.drew (close_impl5 U6.out _)).mono ?_); rintro e wx ⟨rfl, hC⟩))
    all_goals go_wp2
    all_goals
      go_returns
      exact ⟨rfl, hC.2⟩

end Go.Proofs.Ytnnpabldpjohfab
