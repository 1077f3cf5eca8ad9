/- The first words of a translation's head, read without reading the rest of it: three of a row's closed facts hang on them alone. -/
import Derived.Test.YteajojhfcllodaaRows
import Derived.JoinedOf
import Derived.KernelRfl
namespace Go.Proofs.Yteajojhfcllodaa
open Go

theorem words_split (r : List Char) : ∀ a : List Char, (∀ c ∈ a, c ≠ Char.ofNat 32) → wordsSigns (a ++ Char.ofNat 32 :: r) = a :: wordsSigns r
  | [], _ => rfl
  | c :: a, h => by
    have ih := words_split r a (fun x hx => h x (List.mem_cons_of_mem _ hx))
    have hc : c ≠ Char.ofNat 32 := h c List.mem_cons_self
    show wordsSigns (c :: (a ++ Char.ofNat 32 :: r)) = _
    rw [wordsSigns]
    · rw [ih]
    · exact hc

theorem strip_cut (R : List (List Char)) : stripLifts liftWords ("cut".toList :: R) = ([], "cut".toList :: R) := by rfl

section
variable {P : Program} {R : List (List Char)}
theorem headLifts_cut (h : behindMainWord (wordsSigns P.initOrder.toList) = "cut".toList :: R) : P.headLifts = [] := by
  unfold Program.headLifts
  rw [h, strip_cut]
  rfl
theorem mayEnter_cut (h : behindMainWord (wordsSigns P.initOrder.toList) = "cut".toList :: R) (h1 : P.laysLater = false) (h2 : P.bearsReflect = false) (h3 : P.doorFits [] = true) : P.mayEnter = true := by
  unfold Program.mayEnter
  rw [h]
  simp only [strip_cut, h1, h2, h3]
  rfl
theorem liftsFinal_cut (h : behindMainWord (wordsSigns P.initOrder.toList) = "cut".toList :: R) : P.liftsFinal = false := by
  unfold Program.liftsFinal
  rw [headLifts_cut h, h]
  rfl
theorem make_cut (h : behindMainWord (wordsSigns P.initOrder.toList) = "cut".toList :: R) : P.make = some .cut := by
  unfold Program.make
  rw [h]
  rfl
end

set_option maxRecDepth 100000 in
theorem head_is : ∃ r, Try.prog.initOrder = String.ofList ([Char.ofNat 104, Char.ofNat 97, Char.ofNat 114, Char.ofNat 110, Char.ofNat 101, Char.ofNat 115, Char.ofNat 115] ++ Char.ofNat 32 :: ([Char.ofNat 54, Char.ofNat 52, Char.ofNat 102, Char.ofNat 99, Char.ofNat 53, Char.ofNat 49, Char.ofNat 97, Char.ofNat 52, Char.ofNat 52, Char.ofNat 97, Char.ofNat 53, Char.ofNat 56, Char.ofNat 49, Char.ofNat 55, Char.ofNat 101, Char.ofNat 98, Char.ofNat 98, Char.ofNat 49, Char.ofNat 102, Char.ofNat 100, Char.ofNat 55, Char.ofNat 48, Char.ofNat 55, Char.ofNat 51, Char.ofNat 55, Char.ofNat 54, Char.ofNat 50, Char.ofNat 57, Char.ofNat 102, Char.ofNat 56, Char.ofNat 57, Char.ofNat 48, Char.ofNat 49, Char.ofNat 98, Char.ofNat 98, Char.ofNat 56, Char.ofNat 50, Char.ofNat 102, Char.ofNat 57, Char.ofNat 51, Char.ofNat 100, Char.ofNat 98, Char.ofNat 53, Char.ofNat 50, Char.ofNat 48, Char.ofNat 100, Char.ofNat 97, Char.ofNat 98, Char.ofNat 99, Char.ofNat 48, Char.ofNat 101, Char.ofNat 51, Char.ofNat 56, Char.ofNat 52, Char.ofNat 100, Char.ofNat 100, Char.ofNat 101, Char.ofNat 50, Char.ofNat 99, Char.ofNat 102, Char.ofNat 53, Char.ofNat 53, Char.ofNat 52, Char.ofNat 97] ++ Char.ofNat 32 :: ([Char.ofNat 99, Char.ofNat 117, Char.ofNat 116] ++ Char.ofNat 32 :: r))) := ⟨_, rfl⟩

theorem head_cut : ∃ R, behindMainWord (wordsSigns Try.prog.initOrder.toList) = "cut".toList :: R := by
  obtain ⟨r, hr⟩ := head_is
  refine ⟨wordsSigns r, ?_⟩
  rw [hr, String.toList_ofList, words_split _ _ (by decide), words_split _ _ (by decide), words_split _ _ (by decide)]
  rfl

theorem h_mayEnter : Try.prog.mayEnter = true := by
  obtain ⟨R, h⟩ := head_cut
  exact mayEnter_cut h (by kernel_rfl) (by kernel_rfl) (by kernel_rfl)
theorem h_liftsFinal : Try.prog.liftsFinal = false := by
  obtain ⟨R, h⟩ := head_cut
  exact liftsFinal_cut h
theorem h_make : Try.prog.make = some .cut := by
  obtain ⟨R, h⟩ := head_cut
  exact make_cut h

end Go.Proofs.Yteajojhfcllodaa
