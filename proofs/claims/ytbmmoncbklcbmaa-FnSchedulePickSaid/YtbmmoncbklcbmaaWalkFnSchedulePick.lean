/- The walk of the law FnSchedulePick. -/
import Derived.Test.YtbmmoncbklcbmaaOptDraw
namespace Go.Proofs.Ytbmmoncbklcbmaa
open Go.RowKit

set_option maxRecDepth 100000 in
set_option maxHeartbeats 4000000 in
theorem walkFnSchedulePick (w : World) (a : Option Addr) (len cap : Nat) (zs : List Int) (h : IsRow .u8 w a len cap zs) :
    Calls Try.prog 5 #[.slice a len cap] w fun e w' => e = .returned (.bool true) ∧ Below w.heap.size w w' := by
  by_cases hllen : 1048576 < len
  · go_enter Try.func5, Try.ntmps5
    go_wp2
    go_ret
    exact ⟨rfl, Below.refl _ _⟩
  go_enter Try.func5, Try.ntmps5
  go_wp2_with fail
  with_reducible refine (drawPick_any w a len cap zs h).mono ?_
  rintro e w1 ⟨A0, c0, L, rfl, hl, hnil, I0, hb1⟩
  clear h
  have HB1 : Below w.heap.size w w1 := hb1
  go_wp2_with fail
  with_reducible refine (pick_i _ _ _ L _ I0 (by omega)).mono ?_
  rintro e w2 ⟨out, ho, rfl, hb2⟩
  have HB2 : Below w.heap.size w w2 := HB1.trans (hb2.mono HB1.size)
  have I0 := I0.below hb2
  go_wp2_with fail
  with_reducible refine (pick_s _ _ _ L _ I0 (by omega)).mono ?_
  rintro e w3 ⟨out2, ho2, rfl, hb3⟩
  have HB3 : Below w.heap.size w w3 := HB2.trans (hb3.mono HB2.size)
  have I0 := I0.below hb3
  obtain rfl := ordered_unique ho ho2
  clear ho2
  have HO := hid_of ho
  clear ho
  obtain ⟨pk, hpk⟩ : ∃ x, x = pickOf out := ⟨_, rfl⟩
  rw [← hpk]
  have HPK := hid_of hpk
  clear hpk
  go_wp2_with fail
  with_reducible refine (order_i _ _ _ L _ I0 (by omega)).mono ?_
  rintro e w4 ⟨A4, c4, out4, rfl, ho4, _, _, _, I4, hb4⟩
  obtain rfl := ordered_unique HO.out ho4
  clear ho4 HO
  have HB4 : Below w.heap.size w w4 := HB3.trans (hb4.mono HB3.size)
  cases out with
  | nil =>
    obtain rfl : pk = -1 := HPK.out
    go_wp2_with fail
    go_ret
    exact ⟨rfl, HB4⟩
  | cons i t =>
    obtain rfl : pk = (i : Int) := HPK.out
    obtain ⟨b, off, rfl, _, hc⟩ := I4.2 (by simp)
    have d0 := hc 0 (by simp)
    have e0 : inth (ints (i :: t)) 0 = i := rfl
    rw [e0, Nat.add_zero] at d0
    have hlp : 0 < (i :: t).length := by simp
    obtain ⟨len4, hlen⟩ : ∃ x, x = (i :: t).length := ⟨_, rfl⟩
    rw [← hlen] at hlp ⊢
    have hne : ((len4 : Int) == 0) = false := by rw [beq_eq_false_iff_ne]; omega
    have hpos : (0 : Int) < (len4 : Int) := by omega
    clear hc hlen
    go_wp2_with fail
    go_ret
    exact ⟨rfl, HB4⟩

end Go.Proofs.Ytbmmoncbklcbmaa
