/- SendNext as a plain function; contracts in the form that the walks want. -/
import Derived.Test.YtmkmaeblnnfheabSndN
import Derived.Test.YtmkmaeblnnfheabSndI
import Derived.Test.YtmkmaeblnnfheabSndV
namespace Go.Proofs.Ytmkmaeblnnfheab
open Go.RowKit
attribute [local irreducible] Go.wpQuiet

noncomputable def sendNext (s : Sd) (k : Int) : Sd × Pt × Bool := if okS s = true ∧ decide (1 ≤ k ∧ k ≤ 12) = true then next s k else (sd0, pt0, false)
theorem got_zero {w w' : World} {v : Value} (h : v = .agg #[.string ⟨#[]⟩, .bool false, .int .i64 0, .int .i64 0, .slice none 0 0, .slice none 0 0]) : GotSd w sd0 v w' :=
  ⟨none, 0, none, 0, h, RngIn.empty _ _ _ _, RngIn.empty _ _ _ _, fun h0 => absurd h0 (by show ¬ 0 < ([] : List Rg).length; simp)⟩
theorem sv_v_s {d : ByteArray} {f : Bool} {l n : Int} {LA LB : List Rg} {A : Option Addr} {ca : Nat} {B : Option Addr} {cb : Nat} {v : Bool} (hv : okS ⟨d, f, l, n, LA, LB⟩ = v) (w : World) (hA : RngAt w A LA.length LA) (hB : RngAt w B LB.length LB) (hn : LA.length ≤ 2000000) (hn' : LB.length ≤ 2000000) :
    Calls Try.prog 17 #[.agg #[.string d, .bool f, .int .i64 l, .int .i64 n, .slice A LA.length ca, .slice B LB.length cb]] w fun e w' => e = .returned (.bool v) ∧ Below w.heap.size w w' := hv ▸ sv_spec d f l n LA LB A LA.length ca B LB.length cb w hA hB (by omega) (by omega)
theorem sv_v_i {d : ByteArray} {f : Bool} {l n : Int} {LA LB : List Rg} {A : Option Addr} {ca : Nat} {B : Option Addr} {cb : Nat} {v : Bool} (hv : okS ⟨d, f, l, n, LA, LB⟩ = v) (w : World) (hA : RngAt w A LA.length LA) (hB : RngAt w B LB.length LB) (hn : LA.length ≤ 2000000) (hn' : LB.length ≤ 2000000) :
    Calls Try.prog 34 #[.agg #[.string d, .bool f, .int .i64 l, .int .i64 n, .slice A LA.length ca, .slice B LB.length cb]] w fun e w' => e = .returned (.bool v) ∧ Below w.heap.size w w' := hv ▸ sv_impl d f l n LA LB A LA.length ca B LB.length cb w hA hB (by omega) (by omega)
theorem next_v {d : ByteArray} {f : Bool} {l n : Int} {LA LB : List Rg} {A : Option Addr} {ca : Nat} {B : Option Addr} {cb : Nat} {k : Int} {x : Sd × Pt × Bool} (hx : next ⟨d, f, l, n, LA, LB⟩ k = x) (hs : SV ⟨d, f, l, n, LA, LB⟩) (hk : 1 ≤ k ∧ k ≤ 1000) (w : World) (hA : RngAt w A LA.length LA) (hB : RngAt w B LB.length LB) (eA : A = none → ca = 0) (eB : B = none → cb = 0) :
    Calls Try.prog 54 #[.agg #[.string d, .bool f, .int .i64 l, .int .i64 n, .slice A LA.length ca, .slice B LB.length cb], .int .i64 k] w (GotNext w x) := by
  have h1 : d.size ≤ 30 := hs.len
  have h2 : 0 ≤ l := hs.l0
  have h3 : l ≤ 30 := hs.l1
  have h4 : 0 ≤ n := hs.n0
  have h5 : n ≤ 31 := hs.n31
  have h6 : LA.length ≤ 16 := hs.a.1
  have h7 : LB.length ≤ 16 := hs.b.1
  rw [← hx]
  exact next_s d f l n LA LB A ca B cb k w hA hB eA eB (by omega) (by omega) hk (by omega) ⟨by omega, by omega⟩ ⟨h4, by omega⟩ fun r hr => by
    obtain ⟨e1, e2, e3, e4⟩ := hs.lost (r := r) hr
    dsimp only at e3 e4
    exact ⟨⟨e1, by omega⟩, e2, by omega⟩

end Go.Proofs.Ytmkmaeblnnfheab
