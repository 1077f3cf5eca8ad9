/- What is drawn for the laws on identifiers: a list, and a number with it; two equal lists are found equal; what operations keep is found kept. -/
import Derived.Test.YtobeeakjfkokfabIdsDraw
import Derived.Test.YtobeeakjfkokfabIdsLaws2
import Derived.StillTailTactics
namespace Go.Proofs.Ytobeeakjfkokfab
open Go.RowKit

def DrewIds (w : World) (e : Ending) (w' : World) : Prop :=
  ∃ A c L, e = .returned (.slice A L.length c) ∧ L.length ≤ 9 ∧ IdsIn w' w.heap.size w'.heap.size A L.length c L ∧ Below w.heap.size w w'
def DrewIdsNum (w : World) (lo hi : Int) (e : Ending) (w' : World) : Prop :=
  ∃ A c L p, e = .returned (.tuple #[.slice A L.length c, .int .i64 p]) ∧ lo ≤ p ∧ p ≤ hi ∧ L.length ≤ 9 ∧ IdsIn w' w.heap.size w'.heap.size A L.length c L ∧ Below w.heap.size w w'

theorem St.done {w w' : World} {o : Obj} {m : Nat} {A : Option Addr} {c : Nat} {L : List Cid} (s : St (w.alloc o) w' w.heap.size w.heap.size m A c L) :
    IdsIn w' w.heap.size w'.heap.size A L.length c L ∧ Below w.heap.size w w' :=
  ⟨s.2.2.2.mono (by simp) (Nat.le_refl _), ((Below.refl _ w).alloc (Nat.le_refl _) o).trans (below_of_grown s.2.1 (Nat.le_refl _) (by simp))⟩

section
variable {w wr : World} {B rb m : Nat} {A : Option Addr} {c : Nat} {L : List Cid}
theorem St.pathno (s : St w wr B rb m A c L) (hm : m ≤ 1000000) :
    Calls Try.prog 44 #[.pointer (some ⟨rb, 0, none⟩)] wr fun e w' => ∃ v : Int, e = .returned (.int .i64 v) ∧ -1 ≤ v ∧ v ≤ 4 ∧ St w w' B rb (m + 2) A c L :=
  (pathno_any wr rb m s.1 hm).mono fun _ _ ⟨v, he, h0, h1, hr, hg⟩ =>
    ⟨v, he, h0, h1, hr, grown_trans s.2.1 hg, s.2.2.1, (s.2.2.2.far hg s.2.2.1).mono (Nat.le_refl _) hg.size⟩
end

theorem drawIdsOn_any (w : World) (a : Option Addr) (len cap : Nat) (zs : List Int) (h : IsRow .u8 w a len cap zs) :
    Calls Try.prog 40 #[.slice a len cap] w (DrewIdsNum w (-1) 4) := by
  go_enter Try.func40, Try.ntmps40
  go_wp2_with fail
  refine (open_any w w a len cap zs h h (Nat.le_refl _)).mono ?_
  rintro e w1 ⟨o, rfl, rfl, hr⟩
  go_wp2_with fail
  refine (ids_any _ _ 0 hr (by omega)).mono ?_
  rintro e w2 ⟨A, c, L, rfl, hl, s⟩
  go_wp2_with fail
  refine (s.pathno (by omega)).mono ?_
  rintro e w3 ⟨p, rfl, h0, h1, s⟩
  go_wp2_with fail
  go_ret2
  exact ⟨A, c, L, p, rfl, h0, h1, hl, s.done⟩

theorem drawIdsAssign_any (w : World) (a : Option Addr) (len cap : Nat) (zs : List Int) (h : IsRow .u8 w a len cap zs) :
    Calls Try.prog 21 #[.slice a len cap] w (DrewIdsNum w (-1) 4) := by
  go_enter Try.func21, Try.ntmps21
  go_wp2_with fail
  refine (drawIdsOn_any w a len cap zs h).mono ?_
  rintro e w1 ⟨A, c, L, p, rfl, x⟩
  go_wp2_with fail
  go_ret2
  exact ⟨A, c, L, p, rfl, x⟩

theorem drawIdsMigrate_any (w : World) (a : Option Addr) (len cap : Nat) (zs : List Int) (h : IsRow .u8 w a len cap zs) :
    Calls Try.prog 25 #[.slice a len cap] w (DrewIdsNum w (-1) 4) := by
  go_enter Try.func25, Try.ntmps25
  go_wp2_with fail
  refine (drawIdsOn_any w a len cap zs h).mono ?_
  rintro e w1 ⟨A, c, L, p, rfl, x⟩
  go_wp2_with fail
  go_ret2
  exact ⟨A, c, L, p, rfl, x⟩

theorem drawIdsIssue_any (w : World) (a : Option Addr) (len cap : Nat) (zs : List Int) (h : IsRow .u8 w a len cap zs) :
    Calls Try.prog 11 #[.slice a len cap] w (DrewIdsNum w (-1) 10000) := by
  go_enter Try.func11, Try.ntmps11
  go_wp2_with fail
  refine (open_any w w a len cap zs h h (Nat.le_refl _)).mono ?_
  rintro e w1 ⟨o, rfl, rfl, hr⟩
  go_wp2_with fail
  refine (ids_any _ _ 0 hr (by omega)).mono ?_
  rintro e w2 ⟨A, c, L, rfl, hl, s⟩
  go_wp2_with fail
  refine (s.value (by omega)).mono ?_
  rintro e w3 ⟨p, rfl, h0, h1, s⟩
  go_wp2_with fail
  go_ret2
  exact ⟨A, c, L, p, rfl, h0, h1, hl, s.done⟩

theorem drawIdsRetire_any (w : World) (a : Option Addr) (len cap : Nat) (zs : List Int) (h : IsRow .u8 w a len cap zs) :
    Calls Try.prog 17 #[.slice a len cap] w (DrewIdsNum w (-100) 100) := by
  go_enter Try.func17, Try.ntmps17
  go_wp2_with fail
  refine (open_any w w a len cap zs h h (Nat.le_refl _)).mono ?_
  rintro e w1 ⟨o, rfl, rfl, hr⟩
  go_wp2_with fail
  refine (ids_any _ _ 0 hr (by omega)).mono ?_
  rintro e w2 ⟨A, c, L, rfl, hl, s⟩
  go_wp2_with fail
  all_goals
    with_reducible refine (s.pick (by omega) _ (by omega) (by omega)).mono ?_
    rintro e w3 ⟨x, rfl, hx0, hx1, s⟩
    go_wp2_with fail
    with_reducible refine (s.pick (by omega) 8 (by omega) (by omega)).mono ?_
    rintro e w4 ⟨y, rfl, hy0, hy1, s⟩
    rcases (show y = 0 ∨ y = 1 ∨ y = 2 ∨ y = 3 ∨ y = 4 ∨ y = 5 ∨ y = 6 ∨ y = 7 from by omega) with rfl | rfl | rfl | rfl | rfl | rfl | rfl | rfl
    all_goals
      go_wp2_with fail
      with_reducible refine (s.pick (by omega) 9 (by omega) (by omega)).mono ?_
      rintro e w5 ⟨z, rfl, hz0, hz1, s⟩
      go_wp2_with fail
      go_ret2
      exact ⟨A, c, L, _, rfl, by omega, by omega, hl, s.done⟩

theorem cell_drew {w : World} {p : Addr} {v : Value} (h : w.cell? p = some v) : w.drew.cell? p = some v := h
theorem lt_drew {w : World} {g : Nat} (h : g < w.heap.size) : g < w.drew.heap.size := h
/-- A call of IdsOn keeps what was there. -/
theorem on_step {B S : Nat} {A : Option Addr} {n c g j : Nat} {L : List Cid} {w : World} {q y : Int} {u : Value} (h : IdsIn w B S A n c L) (hg : g < w.heap.size) (hS : w.cell? ⟨g, j, none⟩ = some u) (hY : onV L q = y) (hn : n ≤ 2000000) :
    Calls Try.prog 20 #[.slice A n c, .int .i64 q] w fun e w' => e = .returned (.int .i64 y) ∧ w'.cell? ⟨g, j, none⟩ = some u ∧ Below w.heap.size w w' :=
  (idsOn_i A n c L w q h hn).mono fun _ _ ⟨he, hb⟩ => ⟨by rw [he, hY], (hb.cell (p := ⟨g, j, none⟩) hg).trans hS, hb⟩

/-- Equal lists are found equal. -/
theorem same_any {B S B' S' : Nat} (A A' : Option Addr) (n c c' : Nat) (L : List Cid) (w : World) (h : IdsIn w B S A n c L) (h' : IdsIn w B' S' A' n c' L) (hn : n ≤ 2000000) :
    Calls Try.prog 14 #[.slice A n c, .slice A' n c'] w fun e w' => e = .returned (.bool true) ∧ Below w.heap.size w w' := by
  go_enter Try.func14, Try.ntmps14
  go_wp2_with fail
  go_loopw [5] (fun i wr => ∃ k, i = .int .i64 (k : Nat) ∧ k ≤ n ∧ Below w.heap.size w wr) (fun i _ => n - (intOf i).toNat)
  case atStart => exact ⟨0, rfl, Nat.zero_le _, Below.refl _ _⟩
  case round =>
    obtain ⟨k, rfl, hk, hb⟩ := hrel
    by_cases hlt : k < n
    · obtain ⟨g, rfl, _, _, _, _, hc⟩ := (h.below hb).at_ (by omega)
      obtain ⟨g', rfl, _, _, _, _, hc'⟩ := (h'.below hb).at_ (by omega)
      obtain ⟨c0, c1, c2⟩ := hc k hlt
      obtain ⟨d0, d1, d2⟩ := hc' k hlt
      clear hc hc'
      go_wp2_with fail
      go_quiet (fail)
      go_wp2_with fail
      go_roundw
      case rel => exact ⟨k + 1, by go_num, by omega, below_drewN hb _⟩
      case measure => simp [intOf]; omega
    · have hkn : k = n := by omega
      subst hkn
      clear hlt
      go_wp2_with fail
      go_ret
      exact ⟨rfl, hb⟩

set_option maxHeartbeats 1000000 in
theorem keep_any {B S B' S' : Nat} (A A' : Option Addr) (n n' c c' : Nat) (L M : List Cid) (w : World) (h : IdsIn w B S A n c L) (h' : IdsIn w B' S' A' n' c' M) (hn : n ≤ 2000000) (hn' : n' ≤ 2000000) (hK : Keeps L M) :
    Calls Try.prog 24 #[.slice A n c, .slice A' n' c'] w fun e w' => e = .returned (.bool true) ∧ Below w.heap.size w w' := by
  have hl := h.1
  have hl' := h'.1
  have hnn : n ≤ n' := by have := hK.1; omega
  have hd : decide ((n' : Int) < (n : Int)) = false := decide_eq_false (by omega)
  have hd' : decide (n' < n) = false := decide_eq_false (by omega)
  have HK := hid_of hK.2
  clear hK
  go_enter Try.func24, Try.ntmps24
  go_wp2_with fail
  go_loopw [5] (fun i wr => ∃ k, i = .int .i64 (k : Nat) ∧ k ≤ n ∧ Below w.heap.size w wr) (fun i _ => n - (intOf i).toNat)
  case atStart => exact ⟨0, rfl, Nat.zero_le _, Below.refl _ _⟩
  case round =>
    obtain ⟨k, rfl, hk, hb⟩ := hrel
    by_cases hlt : k < n
    · obtain ⟨g, rfl, _, _, _, _, hc⟩ := (h.below hb).at_ (by omega)
      obtain ⟨g', rfl, _, _, _, _, hc'⟩ := (h'.below hb).at_ (by omega)
      obtain ⟨c0, c1, c2⟩ := hc k hlt
      obtain ⟨d0, d1, d2⟩ := hc' k (by omega)
      have hx := HK.out k (by omega)
      generalize nth L k = x at c0 c1 c2 hx
      generalize nth M k = y at d0 d1 d2 hx
      obtain ⟨v, p, r⟩ := x
      obtain ⟨v', p', r'⟩ := y
      dsimp only at c0 c1 c2 d0 d1 d2 hx
      obtain ⟨h0, h1, h2⟩ := hx
      subst h0
      clear hc hc'
      by_cases hp : 0 ≤ p
      · have e := h1 hp
        subst e
        clear h1
        cases r with
        | true =>
          have e := h2 rfl
          subst e
          clear h2
          go_wp2_with fail
          go_quiet (fail)
          go_wp2_with fail
          go_roundw
          case rel => exact ⟨k + 1, by go_num, by omega, below_drewN hb _⟩
          case measure => simp [intOf]; omega
        | false =>
          clear h2
          go_wp2_with fail
          go_quiet (fail)
          go_wp2_with fail
          go_roundw
          case rel => exact ⟨k + 1, by go_num, by omega, below_drewN hb _⟩
          case measure => simp [intOf]; omega
      · clear h1
        have hp' : decide (0 ≤ p) = false := decide_eq_false hp
        cases r with
        | true =>
          have e := h2 rfl
          subst e
          clear h2
          go_wp2_with fail
          go_quiet (fail)
          go_wp2_with fail
          go_roundw
          case rel => exact ⟨k + 1, by go_num, by omega, below_drewN hb _⟩
          case measure => simp [intOf]; omega
        | false =>
          clear h2
          go_wp2_with fail
          go_quiet (fail)
          go_wp2_with fail
          go_roundw
          case rel => exact ⟨k + 1, by go_num, by omega, below_drewN hb _⟩
          case measure => simp [intOf]; omega
    · have hkn : k = n := by omega
      subst hkn
      clear hlt
      go_wp2_with fail
      go_ret
      exact ⟨rfl, hb⟩

end Go.Proofs.Ytobeeakjfkokfab
