/- The laws' own small functions: the last position of a part, membership. -/
import Derived.Test.YtmkmaeblnnfheaaLawKit
import Derived.Test.YtmkmaeblnnfheaaMg1
namespace Go.Proofs.Ytmkmaeblnnfheaa
open Go.RowKit
attribute [local irreducible] Go.wpQuiet

theorem last_l {z : Int} {o : Int} {d : ByteArray} {f : Bool} (hz : Pt.last ⟨o, d, f⟩ = z) (w : World) (ho : -1000000 ≤ o ∧ o ≤ 1000000) (hd : d.size ≤ 1000000) :
    Calls Try.prog 17 #[.agg #[.int .i64 o, .string d, .bool f]] w fun e w' => e = .returned (.int .i64 z) ∧ Below w.heap.size w w' := by
  subst hz
  cases f
  all_goals
    go_enter Try.func17, Try.ntmps17
    go_wp2_with fail
    go_ret
    exact ⟨ret_int (by simp [Pt.last]), by go_grown⟩
theorem rhas_v {L : List Rg} {q : Int} {b : Bool} {A : Option Addr} {c : Nat} (hv : rvB L = true) (hb : memB L q = b) (w : World) (h : RngAt w A L.length L) (hn : L.length ≤ 2000000) :
    Calls Try.prog 18 #[.slice A L.length c, .int .i64 q] w fun e w' => e = .returned (.bool b) ∧ Below w.heap.size w w' := by
  have := rhas_any A L.length c L w q h hn
  rw [hv, hb, Bool.true_and] at this
  exact this

end Go.Proofs.Ytmkmaeblnnfheaa
