/- What the loop that loses positions carries. -/
import Derived.Test.YtmkmaeblnnfheabSndP
import Derived.Test.YtmkmaeblnnfheabRngE
import Derived.Test.YtmkmaeblnnfheabSendLaws2
namespace Go.Proofs.Ytmkmaeblnnfheab
open Go.RowKit
attribute [local irreducible] Go.wpQuiet

/-- A set of positions from 0 on. -/
def LInv (M : List Rg) : Prop := Canon M ∧ ∀ i, memB M i = true → 0 ≤ i ∧ i ≤ 999
theorem LInv.add {M : List Rg} (h : LInv M) {j : Int} (h0 : 0 ≤ j) (h1 : j ≤ 999) : LInv (add M j j) :=
  ⟨canon_add h.1 (Int.le_refl _), fun i hi => by
    rw [mem_add h.1 (Int.le_refl _)] at hi
    rcases Bool.or_eq_true _ _ ▸ hi with e | e
    · have := of_decide_eq_true e; omega
    · exact h.2 i e⟩
theorem LInv.bd {M : List Rg} (h : LInv M) : ∀ r, r ∈ M → (0 ≤ r.lo ∧ r.lo ≤ 999) ∧ 0 ≤ r.hi ∧ r.hi ≤ 999 := fun _ hr => ⟨h.2 _ (mem_lo h.1 hr), h.2 _ (mem_hi h.1 hr)⟩
theorem LInv.canon {M : List Rg} (h : LInv M) : Canon M := h.1
theorem LInv.len {M : List Rg} (h : LInv M) : M.length ≤ 600 := by
  rcases M with _ | ⟨r0, M⟩
  · simp
  · have := canon_few (r0 :: M) 0 1000 h.1 (fun _ hr => by have := h.bd _ hr; omega) (by simp)
    omega
theorem LInv.wide {M : List Rg} (h : LInv M) : ∀ r, r ∈ M → (-1000000 ≤ r.lo ∧ r.lo ≤ 1000000) ∧ -1000000 ≤ r.hi ∧ r.hi ≤ 1000000 := fun _ hr => by have := h.bd _ hr; omega
theorem LInv.of {M : List Rg} (h : RV M) : LInv M := ⟨h.2.1, fun _ hi => mem_range h.2.2 hi⟩
theorem lose_step {A M : List Rg} {j ls : Int} (h : j ≤ ls) : lose A (ls + 1 - j).toNat j M = lose A (ls + 1 - (j + 1)).toNat (j + 1) (if memB A j = true then M else add M j j) := by
  rw [show (ls + 1 - j).toNat = (ls + 1 - (j + 1)).toNat + 1 from by omega]
  rfl
theorem lose_end {A M : List Rg} {ls : Int} : lose A (ls + 1 - (ls + 1)).toNat (ls + 1) M = M := by
  rw [show (ls + 1 - (ls + 1)).toNat = 0 from by omega]
  rfl

structure LS (w wr : World) (xo : Nat) (d : ByteArray) (f : Bool) (l n : Int) (LA LB : List Rg) (A : Option Addr) (ca : Nat) (B : Option Addr) (cb : Nat) (o : Int) (dp : ByteArray) (fp : Bool) (A1 : Option Addr) (c1 : Nat) (M : List Rg) (Bk : Option Addr) (ck : Nat) : Prop where
  z : Own6 wr w.heap.size d f l n A LA.length ca B LB.length cb
  q : Own3 wr (w.heap.size + 1) o dp fp
  r : Own6 wr (w.heap.size + 1 + 1) (⟨#[]⟩ : ByteArray) false 0 0 none 0 0 none 0 0
  o : Own6 wr xo d f l n A1 LA.length c1 Bk M.length ck
  a : RngIn wr (w.heap.size + 1 + 1 + 1) xo A1 LA.length c1 LA
  b : RngIn wr (w.heap.size + 1 + 1 + 1) wr.heap.size Bk M.length ck M
  ap : Apart A1 LA.length Bk M.length
  bw : Below w.heap.size w wr
  x : w.heap.size + 1 + 1 + 1 ≤ xo
  lt : xo < wr.heap.size
section
variable {w wr w' : World} {xo : Nat} {d : ByteArray} {f : Bool} {l n : Int} {LA LB : List Rg} {A : Option Addr} {ca : Nat} {B : Option Addr} {cb : Nat} {o : Int} {dp : ByteArray} {fp : Bool} {A1 : Option Addr} {c1 : Nat} {M : List Rg} {Bk : Option Addr} {ck : Nat}
theorem LS.below (h : LS w wr xo d f l n LA LB A ca B cb o dp fp A1 c1 M Bk ck) (hb : Below wr.heap.size wr w') : LS w w' xo d f l n LA LB A ca B cb o dp fp A1 c1 M Bk ck :=
  have h1 := h.x
  have h2 := h.lt
  ⟨h.z.under hb (by omega), h.q.under hb (by omega), h.r.under hb (by omega), h.o.under hb h2, h.a.below hb, (h.b.below hb).mono (Nat.le_refl _) hb.size, h.ap, h.bw.trans (hb.mono h.bw.size), h.x, Nat.lt_of_lt_of_le h2 hb.size⟩
/-- The lost positions are replaced. -/
theorem LS.put (h : LS w wr xo d f l n LA LB A ca B cb o dp fp A1 c1 M Bk ck) {s : Nat} (hs : xo < s) {N : List Rg} {B2 : Option Addr} {c2 : Nat} (hb : RngIn wr s wr.heap.size B2 N.length c2 N) :
    LS w (wr.setCell ⟨xo, 5, none⟩ (.slice B2 N.length c2)) xo d f l n LA LB A ca B cb o dp fp A1 c1 N B2 c2 :=
  have h1 := h.x
  have h2 := h.lt
  ⟨h.z.other (by dsimp only; omega) _, h.q.other (by dsimp only; omega) _, h.r.other (by dsimp only; omega) _, h.o.set5 _ _ _, h.a.touch (((Touch.refl wr xo (xo + 1)).setCell (Nat.le_refl _) (Nat.lt_succ_self _) _)) (.inl (Nat.le_refl _)),
    ((hb.setLow (by dsimp only; omega) _).mono (by omega) (by simp [World.setCell])), apart_of h.a hb (.inl (by omega)), h.bw.setCell (by dsimp only; omega) _, h.x, by simpa [World.setCell] using h2⟩
end

end Go.Proofs.Ytmkmaeblnnfheab
