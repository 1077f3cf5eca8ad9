/- What is drawn for the laws on identifiers: a list, and a number with it; two equal lists are found equal; what operations keep is found kept. -/
import Derived.Test.YtobeeakjfkokfaaIdsDraw
import Derived.Test.YtobeeakjfkokfaaIdsLaws2
import Derived.StillTailTactics
namespace Go.Proofs.Ytobeeakjfkokfaa
open Go.RowKit

def DrewIds (w : World) (e : Ending) (w' : World) : Prop :=
  ∃ A c L, e = .returned (.slice A L.length c) ∧ L.length ≤ 9 ∧ IdsIn w' w.heap.size w'.heap.size A L.length c L ∧ Below w.heap.size w w'
def DrewIdsNum (w : World) (lo hi : Int) (e : Ending) (w' : World) : Prop :=
  ∃ A c L p, e = .returned (.tuple #[.slice A L.length c, .int .i64 p]) ∧ lo ≤ p ∧ p ≤ hi ∧ L.length ≤ 9 ∧ IdsIn w' w.heap.size w'.heap.size A L.length c L ∧ Below w.heap.size w w'

theorem St.done {w w' : World} {o : Obj} {m : Nat} {A : Option Addr} {c : Nat} {L : List Cid} (s : St (w.alloc o) w' w.heap.size w.heap.size m A c L) :
    IdsIn w' w.heap.size w'.heap.size A L.length c L ∧ Below w.heap.size w w' :=
  ⟨s.2.2.2.mono (by simp) (Nat.le_refl _), ((Below.refl _ w).alloc (Nat.le_refl _) o).trans (below_of_grown s.2.1 (Nat.le_refl _) (by simp))⟩

section
variable {w wr : World} {B rb m : Nat} {A : Option Addr} {c : Nat} {L : List Cid}
theorem St.pathno (s : St w wr B rb m A c L) (hm : m ≤ 1000000) :
    Calls Try.prog 43 #[.pointer (some ⟨rb, 0, none⟩)] wr fun e w' => ∃ v : Int, e = .returned (.int .i64 v) ∧ -1 ≤ v ∧ v ≤ 4 ∧ St w w' B rb (m + 2) A c L :=
  (pathno_any wr rb m s.1 hm).mono fun _ _ ⟨v, he, h0, h1, hr, hg⟩ =>
    ⟨v, he, h0, h1, hr, grown_trans s.2.1 hg, s.2.2.1, (s.2.2.2.far hg s.2.2.1).mono (Nat.le_refl _) hg.size⟩
end

theorem drawIdsValid_any (w : World) (a : Option Addr) (len cap : Nat) (zs : List Int) (h : IsRow .u8 w a len cap zs) :
    Calls Try.prog 26 #[.slice a len cap] w (DrewIds w) := by
  go_enter Try.func26, Try.ntmps26
  go_wp2_with fail
  refine (open_any w w a len cap zs h h (Nat.le_refl _)).mono ?_
  rintro e w1 ⟨o, rfl, rfl, hr⟩
  go_wp2_with fail
  refine (ids_any _ _ 0 hr (by omega)).mono ?_
  rintro e w2 ⟨A, c, L, rfl, hl, s⟩
  go_wp2_with fail
  go_ret
  exact ⟨A, c, L, rfl, hl, s.done⟩

theorem drawIdsOn_any (w : World) (a : Option Addr) (len cap : Nat) (zs : List Int) (h : IsRow .u8 w a len cap zs) :
    Calls Try.prog 29 #[.slice a len cap] w (DrewIdsNum w (-1) 4) := by
  go_enter Try.func29, Try.ntmps29
  go_wp2_with fail
  refine (open_any w w a len cap zs h h (Nat.le_refl _)).mono ?_
  rintro e w1 ⟨o, rfl, rfl, hr⟩
  go_wp2_with fail
  refine (ids_any _ _ 0 hr (by omega)).mono ?_
  rintro e w2 ⟨A, c, L, rfl, hl, s⟩
  go_wp2_with fail
  refine (s.pathno (by omega)).mono ?_
  rintro e w3 ⟨p, rfl, h0, h1, s⟩
  go_wp2_with fail
  go_ret2
  exact ⟨A, c, L, p, rfl, h0, h1, hl, s.done⟩

end Go.Proofs.Ytobeeakjfkokfaa
