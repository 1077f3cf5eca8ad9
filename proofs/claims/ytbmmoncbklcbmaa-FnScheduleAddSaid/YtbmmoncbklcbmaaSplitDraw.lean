/- A list of options and a number of packets are drawn. -/
import Derived.Test.YtbmmoncbklcbmaaOrdU
import Derived.Deep.RegionLaw
namespace Go.Proofs.Ytbmmoncbklcbmaa
open Go.RowKit

def tbl (y1 y2 y3 : Int) (k : Nat) : Int := [(-1 : Int), 0, 1, 256, 257, y1, y2, y3].getD k 0
theorem tbl_bd {y1 y2 y3 : Int} {k : Nat} (h1 : 0 ≤ y1 ∧ y1 ≤ 300) (h2 : 0 ≤ y2 ∧ y2 ≤ 300) (h3 : 0 ≤ y3 ∧ y3 ≤ 300) (hk : k < 8) : -1 ≤ tbl y1 y2 y3 k ∧ tbl y1 y2 y3 k ≤ 300 := by
  match k, hk with
  | 0, _ => exact ⟨by show -1 ≤ (-1 : Int); decide, by show (-1 : Int) ≤ 300; decide⟩
  | 1, _ => exact ⟨by show -1 ≤ (0 : Int); decide, by show (0 : Int) ≤ 300; decide⟩
  | 2, _ => exact ⟨by show -1 ≤ (1 : Int); decide, by show (1 : Int) ≤ 300; decide⟩
  | 3, _ => exact ⟨by show -1 ≤ (256 : Int); decide, by show (256 : Int) ≤ 300; decide⟩
  | 4, _ => exact ⟨by show -1 ≤ (257 : Int); decide, by show (257 : Int) ≤ 300; decide⟩
  | 5, _ => exact ⟨by show -1 ≤ y1; omega, h1.2⟩
  | 6, _ => exact ⟨by show -1 ≤ y2; omega, h2.2⟩
  | 7, _ => exact ⟨by show -1 ≤ y3; omega, h3.2⟩
theorem tbl_get {y1 y2 y3 : Int} {k : Nat} (hk : k < 8) : (#[.int .i64 (-1), .int .i64 0, .int .i64 1, .int .i64 256, .int .i64 257, .int .i64 y1, .int .i64 y2, .int .i64 y3] : Array Value)[k]? = some (.int .i64 (tbl y1 y2 y3 k)) := by
  match k, hk with
  | 0, _ => rfl
  | 1, _ => rfl
  | 2, _ => rfl
  | 3, _ => rfl
  | 4, _ => rfl
  | 5, _ => rfl
  | 6, _ => rfl
  | 7, _ => rfl
theorem tbl_new {y1 y2 y3 : Int} {k : Nat} (hk : k < 8) (w : World) : (w.alloc (.cells #[.int .i64 (-1), .int .i64 0, .int .i64 1, .int .i64 256, .int .i64 257, .int .i64 y1, .int .i64 y2, .int .i64 y3] 3)).cell? ⟨w.heap.size, k, none⟩ = some (.int .i64 (tbl y1 y2 y3 k)) := by
  rw [cell_of_row _ _ k _ _ _ (heap_alloc_new w _)]
  exact tbl_get hk
/-- A pick leaves what is not the reader's. -/
theorem St.pick8 {w wr : World} {B rb m : Nat} {A : Option Addr} {c : Nat} {L : List Opt} (s : St w wr B rb m A c L) (hm : m ≤ 1000000) :
    Calls Try.prog 40 #[.pointer (some ⟨rb, 0, none⟩), .int .i64 8] wr fun e w' => ∃ k : Nat, e = .returned (.int .i64 (k : Int)) ∧ k < 8 ∧ (k : Int) < 8 ∧ (0 : Int) ≤ (k : Int) ∧ St w w' B rb (m + 1) A c L ∧ wr.grownBy w' (some rb) :=
  (pick_any wr rb m 8 s.1 (by omega) (by omega) (by omega)).mono fun _ _ ⟨v, he, h0, h1, hr, hg⟩ => by
    obtain ⟨k, rfl⟩ := Int.eq_ofNat_of_zero_le h0
    exact ⟨k, he, by omega, h1, h0, ⟨hr, grown_trans s.2.1 hg, s.2.2.1, (s.2.2.2.far hg s.2.2.1).mono (Nat.le_refl _) hg.size⟩, hg⟩
theorem St.drew {w wr : World} {B rb m : Nat} {A : Option Addr} {c : Nat} {L : List Opt} (s : St w wr B rb m A c L) : St w wr.drew B rb m A c L :=
  ⟨s.1, ⟨s.2.1.os, s.2.1.tape, s.2.1.output, s.2.1.size, s.2.1.block⟩, s.2.2⟩

def DrewOptsNum (w : World) (e : Ending) (w' : World) : Prop :=
  ∃ A c L p, e = .returned (.tuple #[.slice A L.length c, .int .i64 p]) ∧ -1 ≤ p ∧ p ≤ 300 ∧ L.length ≤ 8 ∧ (A = none → c = 0) ∧ OptsAt w' A L.length L ∧ Below w.heap.size w w'

set_option maxRecDepth 100000 in
set_option maxHeartbeats 2000000 in
theorem drawSplit_any (w : World) (a : Option Addr) (len cap : Nat) (zs : List Int) (h : IsRow .u8 w a len cap zs) :
    Calls Try.prog 27 #[.slice a len cap] w (DrewOptsNum w) := by
  go_enter Try.func27, Try.ntmps27
  go_wp2_with fail
  refine (open_any w w a len cap zs h h (Nat.le_refl _)).mono ?_
  rintro e w1 ⟨o, rfl, rfl, hr⟩
  go_wp2_with fail
  refine (opts_any _ _ 0 hr (by omega)).mono ?_
  rintro e w2 ⟨A, c, L, rfl, hl, s⟩
  go_wp2_with fail
  go_region_with (first
    | (go_at_call 40; (with_reducible refine (s.drew.pick (by omega) 60 (by omega) (by omega)).mono ?_); rintro e w3 ⟨y1, rfl, ha0, ha1, s⟩)
    | (go_at_call 40; (with_reducible refine (s.pick (by omega) 20 (by omega) (by omega)).mono ?_); rintro e w4 ⟨y2, rfl, hb0, hb1, s⟩)
    | (go_at_call 40; (with_reducible refine (s.pick8 (by omega)).mono ?_); rintro e w6 ⟨k, rfl, hk, hk1, hk0, s, hg⟩; have hc := fun (a b c : Int) => tbl_new (y1 := a) (y2 := b) (y3 := c) hk w6)
    | (go_at_call 40; (with_reducible refine ((s.alloc _).pick8 (by omega)).mono ?_); rintro e w6 ⟨k, rfl, hk, hk1, hk0, s', hg⟩; have hc := hg.cell (tbl_new hk _) (by intro e; injection e with e; have := s.2.1.size; simp at *; omega); have s := s'))
  all_goals go_wp2_with fail
  all_goals
    go_ret2
    exact ⟨A, c, L, _, rfl, (tbl_bd ⟨by omega, by omega⟩ ⟨by omega, by omega⟩ ⟨by omega, by omega⟩ hk).1, (tbl_bd ⟨by omega, by omega⟩ ⟨by omega, by omega⟩ ⟨by omega, by omega⟩ hk).2, hl, s.nil, by first | exact s.done | exact (s.alloc _).done | exact s.drew.done | exact (s.alloc _).drew.done⟩

end Go.Proofs.Ytbmmoncbklcbmaa
