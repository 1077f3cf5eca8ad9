/- The sending side of a stream in memory. -/
import Derived.Test.YtmkmaeblnnfheabUp
namespace Go.Proofs.Ytmkmaeblnnfheab
open Go.RowKit

def sval (s : Sd) (A : Option Addr) (ca : Nat) (B : Option Addr) (cb : Nat) : Value := .agg #[.string s.d, .bool s.f, .int .i64 s.l, .int .i64 s.n, .slice A s.A.length ca, .slice B s.L.length cb]
/-- The two lists of a stream are read. -/
def SndAt (w : World) (s : Sd) (A : Option Addr) (ca : Nat) (B : Option Addr) (cb : Nat) : Prop := RngAt w A s.A.length s.A ∧ RngAt w B s.L.length s.L ∧ (A = none → ca = 0) ∧ (B = none → cb = 0)
theorem SndAt.below {w w' : World} {s : Sd} {A : Option Addr} {ca : Nat} {B : Option Addr} {cb : Nat} (h : SndAt w s A ca B cb) (hb : Below w.heap.size w w') : SndAt w' s A ca B cb := ⟨h.1.below hb, h.2.1.below hb, h.2.2⟩

/-- The cells of a struct of this kind at the head of a block. -/
def Box (w : World) (b : Nat) (d : ByteArray) (f : Bool) (l n : Int) (A : Option Addr) (na ca : Nat) (B : Option Addr) (nb cb : Nat) : Prop :=
  w.cell? ⟨b, 0, none⟩ = some (.string d) ∧ w.cell? ⟨b, 1, none⟩ = some (.bool f) ∧ w.cell? ⟨b, 2, none⟩ = some (.int .i64 l) ∧ w.cell? ⟨b, 3, none⟩ = some (.int .i64 n) ∧ w.cell? ⟨b, 4, none⟩ = some (.slice A na ca) ∧ w.cell? ⟨b, 5, none⟩ = some (.slice B nb cb)
section
variable {w w' : World} {b : Nat} {d : ByteArray} {f : Bool} {l n : Int} {A : Option Addr} {na ca : Nat} {B : Option Addr} {nb cb : Nat}
theorem Box.of_cells (h : ∀ j, w'.cell? ⟨b, j, none⟩ = w.cell? ⟨b, j, none⟩) (x : Box w b d f l n A na ca B nb cb) : Box w' b d f l n A na ca B nb cb :=
  ⟨(h 0).trans x.1, (h 1).trans x.2.1, (h 2).trans x.2.2.1, (h 3).trans x.2.2.2.1, (h 4).trans x.2.2.2.2.1, (h 5).trans x.2.2.2.2.2⟩
theorem Box.lt (x : Box w b d f l n A na ca B nb cb) : b < w.heap.size := World.block_lt_of_cell? _ _ x.1
theorem Box.below (x : Box w b d f l n A na ca B nb cb) (h : Below w.heap.size w w') : Box w' b d f l n A na ca B nb cb := x.of_cells fun j => h.cell (p := ⟨b, j, none⟩) x.lt
theorem Box.alloc (x : Box w b d f l n A na ca B nb cb) (o : Obj) : Box (w.alloc o) b d f l n A na ca B nb cb := x.below ((Below.refl _ _).alloc (Nat.le_refl _) o)
theorem Box.drew (x : Box w b d f l n A na ca B nb cb) : Box w.drew b d f l n A na ca B nb cb := x
theorem Box.new (w : World) : Box (w.alloc (.cells #[.string d, .bool f, .int .i64 l, .int .i64 n, .slice A na ca, .slice B nb cb] 25)) w.heap.size d f l n A na ca B nb cb := by
  refine ⟨?_, ?_, ?_, ?_, ?_, ?_⟩ <;> simp
end

theorem pos_impl (d : ByteArray) (f : Bool) (l n : Int) (LA LB : List Rg) (A : Option Addr) (ca : Nat) (B : Option Addr) (cb : Nat) (w : World) (hd : d.size ≤ 1000000) :
    Calls Try.prog 50 #[.agg #[.string d, .bool f, .int .i64 l, .int .i64 n, .slice A LA.length ca, .slice B LB.length cb]] w fun e w' => e = .returned (.int .i64 (Sd.pos ⟨d, f, l, n, LA, LB⟩)) ∧ ∃ o, w' = w.alloc o := by
  cases f
  all_goals
    go_enter Try.func50, Try.ntmps50
    go_wp2_with fail
    go_ret
    exact ⟨ret_int (by simp [Sd.pos]), _, rfl⟩
theorem pos_spec (d : ByteArray) (f : Bool) (l n : Int) (LA LB : List Rg) (A : Option Addr) (ca : Nat) (B : Option Addr) (cb : Nat) (w : World) (hd : d.size ≤ 1000000) :
    Calls Try.prog 55 #[.agg #[.string d, .bool f, .int .i64 l, .int .i64 n, .slice A LA.length ca, .slice B LB.length cb]] w fun e w' => e = .returned (.int .i64 (Sd.pos ⟨d, f, l, n, LA, LB⟩)) ∧ ∃ o, w' = w.alloc o := by
  cases f
  all_goals
    go_enter Try.func55, Try.ntmps55
    go_wp2_with fail
    go_ret
    exact ⟨ret_int (by simp [Sd.pos]), _, rfl⟩

theorem okS_yes {d : ByteArray} {f : Bool} {l n : Int} {LA LB : List Rg} (h1 : d.size ≤ 30) (h2 : 0 ≤ l ∧ l ≤ 30) (h3 : 0 ≤ n ∧ n ≤ Sd.pos ⟨d, f, l, n, LA, LB⟩) (h4 : min n (d.size : Int) ≤ l) (h5 : rvB LA = true) (h6 : rvB LB = true)
    (h7 : ∀ i, memB LA i = true → i < n) (h8 : ∀ i, memB LB i = true → i < n) (h9 : ∀ i : Int, 0 ≤ i → i < n → memB LA i = true → memB LB i = true → False) : okS ⟨d, f, l, n, LA, LB⟩ = true :=
  okS_iff.2 ⟨h1, h2.1, h2.2, h3.1, h3.2, h4, rvB_iff.1 h5, rvB_iff.1 h6, h7, h8, fun i a b => h9 i (mem0 (rvB_iff.1 h5) a) (h7 i a) a b⟩

attribute [local irreducible] Go.wpQuiet
theorem Box.up {w : World} {b : Nat} {d : ByteArray} {f : Bool} {l n : Int} {A : Option Addr} {na ca : Nat} {B : Option Addr} {nb cb : Nat} (x : Box w b d f l n A na ca B nb cb) (y : Up w) : Box y.w b d f l n A na ca B nb cb := x.below y.b
theorem up_box {P : Program} {W : World} {f : FuncId} {args : Array Value} {v : Value} {x : Up W} (h : ∀ w', Calls P f args w' fun e w'' => e = .returned v ∧ ∃ o, w'' = w'.alloc o) :
    Calls P f args x.w fun e w'' => e = .returned v ∧ ∃ y : Up W, w'' = y.w := up_of fun w' _ => (h w').mono fun _ _ ⟨he, o, ho⟩ => ⟨he, by rw [ho]; exact (Below.refl _ _).alloc (Nat.le_refl _) o⟩

theorem upto_next {P : Int → Prop} {j : Nat} (h : ∀ q : Int, 0 ≤ q → q < (j : Int) → P q) (h1 : P (j : Int)) (q : Int) (h0 : 0 ≤ q) (hq : q < ((j + 1 : Nat) : Int)) : P q := by
  rcases (show q < j ∨ q = j from by omega) with e | e
  · exact h q h0 e
  · rw [e]; exact h1
/-- A set of positions below n. -/
def Fine (L : List Rg) (n : Int) : Prop := rvB L = true ∧ ∀ i, memB L i = true → i < n
theorem memB_nil' (i : Int) : memB [] i = false := rfl
theorem fine_nil {L : List Rg} {n : Int} (h : L.length = 0) : Fine L n := by
  obtain rfl := List.eq_nil_of_length_eq_zero h
  exact ⟨rvB_true (by simp) (fun k hk => by simp at hk), fun i hi => by rw [memB_nil'] at hi; cases hi⟩
theorem fine_of {L : List Rg} {n : Int} {m : Nat} (h : L.length = m + 1) (hr : rvB L = true) (hl : (rth L m).hi < n) : Fine L n :=
  ⟨hr, fun i hi => lt_of_last (rvB_iff.1 hr).2.1 (by omega) (by rw [show L.length - 1 = m from by omega]; exact hl) hi⟩
theorem last_mem {L : List Rg} {m : Nat} (h : L.length = m + 1) (hr : rvB L = true) : memB L (rth L m).hi = true := mem_hi (rvB_iff.1 hr).2.1 (rth_mem (by omega))

end Go.Proofs.Ytmkmaeblnnfheab
