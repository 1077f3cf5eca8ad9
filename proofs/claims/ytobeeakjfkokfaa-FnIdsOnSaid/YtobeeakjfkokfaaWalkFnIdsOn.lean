/- The walk of the law FnIdsOn. -/
import Derived.Test.YtobeeakjfkokfaaIdsDrawF
namespace Go.Proofs.Ytobeeakjfkokfaa
open Go.RowKit

set_option maxRecDepth 100000 in
set_option maxHeartbeats 8000000 in
theorem walkFnIdsOn (w : World) (a : Option Addr) (len cap : Nat) (zs : List Int) (h : IsRow .u8 w a len cap zs) (a1 : Option Addr) (len1 cap1 : Nat) (zs1 : List Int) (h1 : IsRow .u8 w a1 len1 cap1 zs1) :
    Calls Try.prog 10 #[.slice a len cap, .slice a1 len1 cap1] w fun e w' => e = .returned (.bool true) ∧ Below w.heap.size w w' := by
  have hl0 : (len1 : Int) ≤ 9223372036854775807 := by rcases h1 with ⟨_, rfl, _⟩ | ⟨_, _, hle, hm, _⟩ <;> (try unfold maxLen at hm) <;> omega
  clear h1
  by_cases hllen : 1048576 < len
  · go_enter Try.func10, Try.ntmps10
    go_wp2
    go_ret
    exact ⟨rfl, Below.refl _ _⟩
  by_cases hllen1 : 1048576 < len1
  · go_enter Try.func10, Try.ntmps10
    go_wp2
    go_ret
    exact ⟨rfl, Below.refl _ _⟩
  go_enter Try.func10, Try.ntmps10
  go_wp2_with fail
  with_reducible refine (drawIdsOn_any w a len cap zs h).mono ?_
  rintro e w1 ⟨A0, c0, L, p, rfl, hp0, hp1, hl, I0, hb1⟩
  clear h
  have HB1 : Below w.heap.size w w1 := hb1
  rcases onV_cases L p with E | ⟨i, hi, hok, ⟨hq0, hq1⟩, ho, E⟩
  ·
    have HE := hid_of E
    clear E
    go_wp2_with fail
    with_reducible refine (idsOn_i _ _ _ _ _ p I0 (by omega)).mono ?_
    rw [HE.out]
    rintro e w2 ⟨rfl, hb2⟩
    have HB2 : Below w.heap.size w w2 := HB1.trans (hb2.mono HB1.size)
    have I0 := I0.below hb2
    go_wp2_with fail
    with_reducible refine (idsOn_s _ _ _ _ _ p I0 (by omega)).mono ?_
    rw [HE.out]
    rintro e w3 ⟨rfl, hb3⟩
    have HB3 : Below w.heap.size w w3 := HB2.trans (hb3.mono HB2.size)
    have I0 := I0.below hb3
    go_wp2_with fail
    go_ret
    exact ⟨rfl, HB3⟩
  ·
    have hv := (ok_range hok hi).1
    have hother : ∀ q, q ≠ p → onV L q ≠ onV L p := fun q hq => on_other (by omega) hq
    rw [E] at hother
    generalize (nth L i).v = v at hv hother E
    obtain ⟨hv0, hv1⟩ := hv
    have HE := hid_of E
    have HT := hid_of hother
    clear E hother hok ho
    go_wp2_with fail
    with_reducible refine (idsOn_i _ _ _ _ _ p I0 (by omega)).mono ?_
    rw [HE.out]
    rintro e w2 ⟨rfl, hb2⟩
    have HB2 : Below w.heap.size w w2 := HB1.trans (hb2.mono HB1.size)
    have I0 := I0.below hb2
    go_wp2_with fail
    with_reducible refine (idsOn_s _ _ _ _ _ p I0 (by omega)).mono ?_
    rw [HE.out]
    rintro e w3 ⟨rfl, hb3⟩
    have HB3 : Below w.heap.size w w3 := HB2.trans (hb3.mono HB2.size)
    have I0 := I0.below hb3
    by_cases hqp : (p + 1 + (len1 : Int) % 3) % 4 = p
    ·
      exact absurd hqp (by omega)
    ·
      have hqp' : ((p + 1 + (len1 : Int) % 3) % 4 == p) = false := by rw [beq_eq_false_iff_ne]; exact hqp
      obtain ⟨y, hy⟩ : ∃ y, onV L ((p + 1 + (len1 : Int) % 3) % 4) = y := ⟨_, rfl⟩
      have hne : (y != v) = true := by rw [bne_iff_ne, ← hy]; exact HT.out _ hqp
      have HY := hid_of hy
      clear hy hqp
      go_wp2_with fail
      with_reducible refine (idsOn_i _ _ _ _ _ _ I0 (by omega)).mono ?_
      rw [HY.out]
      rintro e w4 ⟨rfl, hb4⟩
      have HB4 : Below w.heap.size w w4 := HB3.trans (hb4.mono HB3.size)
      have I0 := I0.below hb4
      go_wp2_with fail
      go_ret
      exact ⟨rfl, HB4⟩

end Go.Proofs.Ytobeeakjfkokfaa
