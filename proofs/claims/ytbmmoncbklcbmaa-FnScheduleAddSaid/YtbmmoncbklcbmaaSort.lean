/- The library's insertion sort, at the paths' numbers, by round-trip time: it gives the paths in their order. -/
import Derived.Test.YtbmmoncbklcbmaaOptA
import Derived.Deep.QuietTactic
import Derived.BigQuiet
import Derived.BigRegion
import Derived.Shelf.Abstract
namespace Go.Proofs.Ytbmmoncbklcbmaa
open Go.RowKit

def ints (xs : List Nat) : List Int := xs.map fun (i : Nat) => (i : Int)
theorem ints_len (xs : List Nat) : (ints xs).length = xs.length := by unfold ints; simp
theorem ints_append (xs ys : List Nat) : ints (xs ++ ys) = ints xs ++ ints ys := by unfold ints; simp
theorem inth_ints (xs : List Nat) (i : Nat) : inth (ints xs) i = (xs.getD i 0 : Int) := by
  unfold inth ints
  rw [List.getD_eq_getElem?_getD, List.getD_eq_getElem?_getD, List.getElem?_map]
  cases xs[i]? <;> rfl
theorem mid0 (Q : List Nat) (y x : Nat) (T : List Nat) : inth (ints (Q ++ y :: x :: T)) Q.length = y := by
  rw [inth_ints, List.getD_eq_getElem?_getD, List.getElem?_append_right (Nat.le_refl _)]
  simp
theorem mid1 (Q : List Nat) (y x : Nat) (T : List Nat) : inth (ints (Q ++ y :: x :: T)) (Q.length + 1) = x := by
  rw [inth_ints, List.getD_eq_getElem?_getD, List.getElem?_append_right (by omega)]
  simp
theorem swap_mid (Q : List Nat) (y x : Nat) (T : List Nat) : ((ints (Q ++ y :: x :: T)).set (Q.length + 1) (y : Int)).set Q.length (x : Int) = ints (Q ++ x :: y :: T) := by
  have hq : (ints Q).length = Q.length := ints_len Q
  rw [ints_append, ints_append]
  have e1 : ints (y :: x :: T) = (y : Int) :: (x : Int) :: ints T := rfl
  have e2 : ints (x :: y :: T) = (x : Int) :: (y : Int) :: ints T := rfl
  rw [e1, e2, List.set_append_right _ _ (by omega), show Q.length + 1 - (ints Q).length = 1 from by omega, List.set_cons_succ, List.set_cons_zero,
    List.set_append_right _ _ (by omega), show Q.length - (ints Q).length = 0 from by omega, List.set_cons_zero]

theorem last_of {P1 : List Nat} (h : 0 < P1.length) : ∃ Q y, P1 = Q ++ [y] := by
  rcases List.eq_nil_or_concat P1 with e | ⟨Q, y, e⟩
  · subst e; simp at h
  · exact ⟨Q, y, by simpa using e⟩

/-- The insertion of x is at its end. -/
theorem insert_end {L : List Opt} {P1 P2 : List Nat} {x : Nat} (hp : (P1 ++ P2).Pairwise (Lt L)) (hlt : ∀ z, z ∈ P1 ++ P2 → z < x) (h2 : ∀ y, y ∈ P2 → (onth L x).t < (onth L y).t)
    (h1 : P1 = [] ∨ ∃ Q y, P1 = Q ++ [y] ∧ (onth L y).t ≤ (onth L x).t) : (P1 ++ x :: P2).Pairwise (Lt L) := by
  have e := order_insert (L := L) (out := P1 ++ P2) (i := x) (k := P1.length) hp hlt (by simp) (by
    rcases h1 with rfl | ⟨Q, y, rfl, hy⟩
    · exact .inl rfl
    · refine .inr ?_
      have : ((Q ++ [y]) ++ P2).getD ((Q ++ [y]).length - 1) 0 = y := by
        rw [List.getD_eq_getElem?_getD, List.append_assoc, List.getElem?_append_right (by simp)]
        simp
      rw [this]
      exact hy) (by
    intro j hj hl
    refine h2 _ ?_
    rw [List.getD_eq_getElem?_getD, List.getElem?_append_right hj]
    simp only [List.length_append] at hl
    rw [List.getElem?_eq_getElem (by omega)]
    exact List.getElem_mem _)
  rw [List.take_left, List.drop_left] at e
  exact e

theorem cmp_any (A : Option Addr) (n c : Nat) (L : List Opt) (B x y : Nat) (w : World) (hcell : w.cell? ⟨B, 0, none⟩ = some (.slice A n c)) (h : OptsAt w A n L) (hx : x < n) (hy : y < n)
    (hxt : 1 ≤ (onth L x).t ∧ (onth L x).t ≤ 99) (hyt : 1 ≤ (onth L y).t ∧ (onth L y).t ≤ 99) :
    Calls Try.prog 37 #[.int .i64 x, .int .i64 y, .pointer (some ⟨B, 0, none⟩)] w fun e w' => e = .returned (.int .i64 ((onth L x).t - (onth L y).t)) ∧ ∃ m, w' = w.drewN m := by
  obtain ⟨b, off, rfl, hbl, hc⟩ := h.2 (by omega)
  obtain ⟨_, c1, _, _⟩ := hc x hx
  obtain ⟨_, d1, _, _⟩ := hc y hy
  generalize (onth L x).t = tx at c1 hxt
  generalize (onth L y).t = ty at d1 hyt
  obtain ⟨hx0, hx1⟩ := hxt
  obtain ⟨hy0, hy1⟩ := hyt
  have i0 : (0 : Int) ≤ (x : Int) := Int.natCast_nonneg _
  have i1 : (x : Int) < (n : Int) := by omega
  have i2 : (0 : Int) ≤ (y : Int) := Int.natCast_nonneg _
  have i3 : (y : Int) < (n : Int) := by omega
  clear hc h
  go_enter Try.func37, Try.ntmps37
  go_wp2_with fail
  go_quiet (fail)
  go_wp2_with fail
  go_ret
  exact ⟨rfl, _, rfl⟩

theorem optsAt_touch {w w' : World} {B S : Nat} {A : Option Addr} {n : Nat} {L : List Opt} (h : OptsAt w A n L) (t : Touch w w' B S) (hd : 0 < n → ∀ b off, A = some ⟨b, off, none⟩ → b < B ∨ S ≤ b) : OptsAt w' A n L :=
  ⟨h.1, fun hn => by
    obtain ⟨b, off, rfl, hlt, hc⟩ := h.2 hn
    have hb := t.block b hlt (hd hn b off rfl)
    refine ⟨b, off, rfl, Nat.lt_of_lt_of_le hlt t.size, fun i hi => ?_⟩
    obtain ⟨h0, h1, h2, h3⟩ := hc i hi
    exact ⟨(World.cell?_of_block (w := w) (a := ⟨b, _, none⟩) hb).trans h0, (World.cell?_of_block (w := w) (a := ⟨b, _, none⟩) hb).trans h1, (World.cell?_of_block (w := w) (a := ⟨b, _, none⟩) hb).trans h2, (World.cell?_of_block (w := w) (a := ⟨b, _, none⟩) hb).trans h3⟩⟩

/-- What is held while the numbers are sorted. -/
structure Srt (L : List Opt) (A : Option Addr) (n c Bc B0 S : Nat) (w : World) : Prop where
  cell : w.cell? ⟨Bc, 0, none⟩ = some (.slice A n c)
  opts : OptsAt w A n L
  apart : Bc < B0
  far : 0 < n → ∀ b off, A = some ⟨b, off, none⟩ → b < B0
theorem Srt.touch {L : List Opt} {A : Option Addr} {n c Bc B0 S : Nat} {w w' : World} (h : Srt L A n c Bc B0 S w) (t : Touch w w' B0 S) : Srt L A n c Bc B0 S w' :=
  ⟨(World.cell?_of_block (w := w) (a := ⟨Bc, 0, none⟩) (t.block Bc (World.block_lt_of_cell? w _ h.cell) (.inl h.apart))).trans h.cell, optsAt_touch h.opts t fun hn b off e => .inl (h.far hn b off e), h.apart, h.far⟩

theorem Srt.drewN {L : List Opt} {A : Option Addr} {n c Bc B0 S : Nat} {w : World} (h : Srt L A n c Bc B0 S w) (m : Nat) : Srt L A n c Bc B0 S (w.drewN m) := ⟨h.cell, h.opts, h.apart, h.far⟩

set_option maxRecDepth 100000 in
set_option maxHeartbeats 2000000 in
theorem ins_any {B0 S : Nat} (A : Option Addr) (n c Bc : Nat) (L : List Opt) (A1 : Option Addr) (n1 c1 : Nat) (xs : List Nat) (w : World) (hS : Srt L A n c Bc B0 S w)
    (hok : ∀ i, i < n → 1 ≤ (onth L i).t ∧ (onth L i).t ≤ 99) (hI : IntsIn w B0 S A1 n1 c1 (ints xs)) (hxs : ∀ x, x ∈ xs → x < n) (hinc : xs.Pairwise (· < ·)) (hn1 : n1 ≤ 2000000) :
    Calls Try.prog 42 #[.slice A1 n1 c1, .int .i64 0, .int .i64 n1, .func (.func 37) #[] #[.pointer (some ⟨Bc, 0, none⟩)]] w fun e w' =>
      e = .returned (.tuple #[]) ∧ ∃ ys, ys.Pairwise (Lt L) ∧ (∀ z, z ∈ ys ↔ z ∈ xs) ∧ ys.length = n1 ∧ IntsIn w' B0 S A1 n1 c1 (ints ys) ∧ Touch w w' B0 S := by
  have hlen : xs.length = n1 := by rw [← ints_len]; exact hI.1
  have HOK := hid_of hok
  have HXS := hid_of hxs
  have HINC := hid_of hinc
  clear hok hxs hinc
  go_enter Try.func42, Try.ntmps42
  go_wp2_with fail
  go_loopw [8] (fun i wr => ∃ k P, i = .int .i64 (k : Nat) ∧ 1 ≤ k ∧ k ≤ n1 + 1 ∧ Hid (P.Pairwise (Lt L) ∧ (∀ z, z ∈ P ↔ z ∈ xs.take k)) ∧ IntsIn wr B0 S A1 n1 c1 (ints (P ++ xs.drop k)) ∧ Touch w wr B0 S) (fun i _ => n1 + 1 - (intOf i).toNat)
  case atStart =>
    refine ⟨1, xs.take 1, rfl, Nat.le_refl _, by omega, ⟨?_, fun z => Iff.rfl⟩, by rw [List.take_append_drop]; exact hI, Touch.refl _ _ _⟩
    match xs with
    | [] => simp
    | a :: t => simp
  case round =>
    obtain ⟨k, P, rfl, hk1, hk2, HP, hIr, hT⟩ := hrel
    have hPl : P.length + (xs.length - k) = n1 := by have := hIr.1; rw [ints_len, List.length_append, List.length_drop] at this; exact this
    by_cases hlt : k < n1
    · obtain ⟨x, hx⟩ : ∃ x, x = xs[k]'(by omega) := ⟨_, rfl⟩
      have hdrop : xs.drop k = x :: xs.drop (k + 1) := by rw [List.drop_eq_getElem_cons (by omega), hx]
      have hxm : x ∈ xs := by rw [hx]; exact List.getElem_mem _
      have hPx : ∀ z, z ∈ P → z < x := fun z hz => by
        have hz' := (HP.out.2 z).1 hz
        obtain ⟨j, hj, rfl⟩ := List.mem_iff_getElem.1 hz'
        simp only [List.length_take] at hj
        rw [List.getElem_take, hx]
        exact List.pairwise_iff_getElem.1 HINC.out j k (by omega) (by omega) (by omega)
      have hnext : ∀ z, z ∈ P ++ [x] ↔ z ∈ xs.take (k + 1) := fun z => by
        rw [List.take_succ_eq_append_getElem (by omega), ← hx, List.mem_append, List.mem_append, HP.out.2 z]
      rw [hdrop] at hIr
      have HPX := hid_of hPx
      have HNX := hid_of hnext
      have HXM := hid_of hxm
      clear hx hdrop hPx hnext hxm
      have hPk : P.length = k := by omega
      obtain ⟨R, hR⟩ : ∃ R, R = xs.drop (k + 1) := ⟨_, rfl⟩
      rw [← hR] at hIr
      have HR := hid_of hR
      clear hR
      go_wp2_with fail
      go_loopw [9] (fun j wx => ∃ P1 P2 : List Nat, j = .int .i64 (P1.length : Nat) ∧ Hid (P1 ++ P2 = P ∧ ∀ y, y ∈ P2 → (onth L x).t < (onth L y).t) ∧ P1.length ≤ k ∧ IntsIn wx B0 S A1 n1 c1 (ints (P1 ++ x :: P2 ++ R)) ∧ Touch w wx B0 S) (fun j _ => (intOf j).toNat)
      case atStart => exact ⟨P, [], by rw [hPk], ⟨by simp, by simp⟩, by omega, by simpa using hIr, hT⟩
      case round =>
        obtain ⟨P1, P2, rfl, HI2, hP1, hIx, hTx⟩ := hrel
        have hSx := hS.touch hTx
        -- the insertion is at its end
        have out : (P1 = [] ∨ ∃ Q y, P1 = Q ++ [y] ∧ (onth L y).t ≤ (onth L x).t) → ∀ q, ∃ k' P', Value.int .i64 ((k : Int) + 1) = .int .i64 (k' : Nat) ∧ 1 ≤ k' ∧ k' ≤ n1 + 1 ∧ Hid (P'.Pairwise (Lt L) ∧ (∀ z, z ∈ P' ↔ z ∈ xs.take k')) ∧ IntsIn (wr.drewN q) B0 S A1 n1 c1 (ints (P' ++ xs.drop k')) ∧ Touch w (wr.drewN q) B0 S := fun he q => by
          refine ⟨k + 1, P1 ++ x :: P2, by go_num, by omega, by omega, ⟨?_, ?_⟩, by rw [← HR.out]; exact hIx.drewN q, hTx.drewN q⟩
          · refine insert_end (by rw [HI2.out.1]; exact HP.out.1) (by rw [HI2.out.1]; exact HPX.out) HI2.out.2 he
          · intro z
            rw [← HNX.out z, ← HI2.out.1]
            simp only [List.mem_append, List.mem_cons, List.not_mem_nil, or_false]
            constructor
            · rintro (h | h | h)
              · exact .inl (.inl h)
              · exact .inr h
              · exact .inl (.inr h)
            · rintro ((h | h) | h)
              · exact .inl h
              · exact .inr (.inr h)
              · exact .inr (.inl h)
        have OUT : Hid _ := out
        clear out
        by_cases hj : 0 < P1.length
        · obtain ⟨Q, y, rfl⟩ := last_of hj
          have hQl : (Q ++ [y]).length = Q.length + 1 := by simp
          rw [hQl] at hP1 ⊢
          have hshape : ints (Q ++ [y] ++ x :: P2 ++ R) = ints (Q ++ y :: x :: (P2 ++ R)) := by simp
          rw [hshape] at hIx
          obtain ⟨g, rfl, hg1, hg2, hgl, hf, hc⟩ := hIx.at_ (by omega)
          have e0 := hc Q.length (by omega)
          have e1 := hc (Q.length + 1) (by omega)
          rw [mid0] at e0
          rw [mid1] at e1
          have f0 := hf Q.length
          have f1 := hf (Q.length + 1)
          have hym : y ∈ P := by rw [← HI2.out.1]; simp
          have hyx : y < n := HXS.out y (List.mem_of_mem_take ((HP.out.2 y).1 hym))
          have hxx : x < n := HXS.out x HXM.out
          have hcmp := fun (w' : World) (hc' : Srt L A n c Bc B0 S w') => cmp_any A n c L Bc x y w' hc'.cell hc'.opts hxx hyx (HOK.out x hxx) (HOK.out y hyx)
          have HC := hid_of hcmp
          have hbig := HOK.out x hxx
          have hbig2 := HOK.out y hyx
          obtain ⟨dt, hdt⟩ : ∃ d, d = (onth L x).t - (onth L y).t := ⟨_, rfl⟩
          rw [← hdt] at HC
          have HD := hid_of hdt
          clear hcmp hdt hc hf
          have i0 : (0 : Int) ≤ (Q.length : Int) := Int.natCast_nonneg _
          have i1 : (Q.length : Int) < (n1 : Int) := by omega
          have i2 : (Q.length : Int) + 1 < (n1 : Int) := by omega
          by_cases hd : dt < 0
          · go_wp2_with fail
            go_quiet (first | (go_at_call 37; refine Calls.quiet_of (HC.out _ (hSx.drewN _))))
            go_wp2_with fail
            go_region
            all_goals go_wp2_with fail
            go_roundw
            case rel =>
              refine ⟨Q, y :: P2, by go_num, ⟨by rw [← HI2.out.1]; simp, ?_⟩, by omega, ?_, ?_⟩
              · intro z hz
                rcases List.mem_cons.1 hz with e | e
                · have := HD.out
                  rw [e]
                  omega
                · exact HI2.out.2 z e
              · have e := ((hIx.drewN (nq + 1)).store (k := Q.length + 1) (by omega) (y : Int)).store (k := Q.length) (by omega) (x : Int)
                rw [swap_mid] at e
                have hs : Q ++ x :: y :: P2 ++ R = Q ++ x :: y :: (P2 ++ R) := by simp
                rw [hs]
                exact e
              · exact ((hTx.drewN (nq + 1)).setCell (p := ⟨g, Q.length + 1, none⟩) hg1 hg2 _).setCell (p := ⟨g, Q.length, none⟩) hg1 hg2 _
            case measure => first | (simp [intOf]; done) | (simp [intOf]; omega)
          · have hd' : decide (dt < 0) = false := decide_eq_false hd
            go_wp2_with fail
            go_quiet (first | (go_at_call 37; refine Calls.quiet_of (HC.out _ (hSx.drewN _))))
            go_wp2_with fail
            go_roundw
            case rel =>
              exact OUT.out (.inr ⟨Q, y, rfl, by have := HD.out; omega⟩) _
            case measure => first | (simp [intOf]; done) | (simp [intOf]; omega)
        · have hP0 : P1 = [] := List.eq_nil_of_length_eq_zero (by omega)
          subst hP0
          go_wp2_with fail
          go_quiet (fail)
          go_wp2_with fail
          go_roundw
          case rel => exact OUT.out (.inl trivial) _
          case measure => simp [intOf]; omega
    · rw [List.drop_of_length_le (by omega), List.append_nil] at hIr
      have hkx : ∀ z, z ∈ P ↔ z ∈ xs := fun z => by rw [HP.out.2 z, List.take_of_length_le (by omega)]
      have HK := hid_of hkx
      clear hkx
      go_wp2_with fail
      go_end0
      exact ⟨rfl, P, HP.out.1, HK.out, by have := hIr.1; rw [ints_len] at this; exact this, hIr, hT⟩

/-- Numbers sorted in their block. -/
def Sorted (L : List Opt) (w : World) (B0 S : Nat) (A1 : Option Addr) (n1 c1 : Nat) (xs : List Nat) (e : Ending) (w' : World) : Prop :=
  e = .returned (.tuple #[]) ∧ ∃ ys, ys.Pairwise (Lt L) ∧ (∀ z, z ∈ ys ↔ z ∈ xs) ∧ ys.length = n1 ∧ IntsIn w' B0 S A1 n1 c1 (ints ys) ∧ Touch w w' B0 S

set_option maxHeartbeats 2000000 in
theorem stable_any {B0 S : Nat} (A : Option Addr) (n c Bc : Nat) (L : List Opt) (A1 : Option Addr) (n1 c1 : Nat) (xs : List Nat) (w : World) (hS : Srt L A n c Bc B0 S w)
    (hok : ∀ i, i < n → 1 ≤ (onth L i).t ∧ (onth L i).t ≤ 99) (hI : IntsIn w B0 S A1 n1 c1 (ints xs)) (hxs : ∀ x, x ∈ xs → x < n) (hinc : xs.Pairwise (· < ·)) (hn1 : n1 ≤ 4) :
    Calls Try.prog 41 #[.slice A1 n1 c1, .int .i64 n1, .func (.func 37) #[] #[.pointer (some ⟨Bc, 0, none⟩)]] w (Sorted L w B0 S A1 n1 c1 xs) := by
  have hcon := ins_any A n c Bc L A1 n1 c1 xs w hS hok hI hxs hinc (by omega)
  have hd : decide ((20 : Int) ≤ (n1 : Int)) = false := decide_eq_false (by omega)
  have hd2 : decide ((20 : Int) < (n1 : Int)) = false := decide_eq_false (by omega)
  clear hS hok hI hxs hinc
  go_enter Try.func41, Try.ntmps41
  go_wp2_with fail
  go_loop [7, 8] (fun a b => a = .int .i64 0 ∧ b = .int .i64 20) (fun _ _ => 0)
  case atStart => exact ⟨rfl, rfl⟩
  case round =>
    obtain ⟨rfl, rfl⟩ := hrel
    go_wp2_with fail
    refine hcon.mono ?_
    rintro e w1 ⟨rfl, hys⟩
    have HY := hid_of hys
    clear hys hcon
    go_wp2_with fail
    go_loop [6, 7, 8] (fun s a b => s = .int .i64 20 ∧ a = .int .i64 0 ∧ b = .int .i64 20) (fun _ _ _ => 0)
    case atStart => exact ⟨rfl, rfl, rfl⟩
    case round =>
      obtain ⟨rfl, rfl, rfl⟩ := hrel
      go_wp2_with fail
      go_end0
      exact ⟨rfl, HY.out⟩

theorem sortStable_any {B0 S : Nat} (A : Option Addr) (n c Bc : Nat) (L : List Opt) (A1 : Option Addr) (n1 c1 : Nat) (xs : List Nat) (w : World) (hS : Srt L A n c Bc B0 S w)
    (hok : ∀ i, i < n → 1 ≤ (onth L i).t ∧ (onth L i).t ≤ 99) (hI : IntsIn w B0 S A1 n1 c1 (ints xs)) (hxs : ∀ x, x ∈ xs → x < n) (hinc : xs.Pairwise (· < ·)) (hn1 : n1 ≤ 4) :
    Calls Try.prog 36 #[.slice A1 n1 c1, .func (.func 37) #[] #[.pointer (some ⟨Bc, 0, none⟩)]] w (Sorted L w B0 S A1 n1 c1 xs) := by
  have hcon := stable_any A n c Bc L A1 n1 c1 xs w hS hok hI hxs hinc hn1
  clear hS hok hI hxs hinc
  go_enter Try.func36, Try.ntmps36
  go_wp2_with fail
  refine hcon.mono ?_
  rintro e w1 ⟨rfl, hys⟩
  have HY := hid_of hys
  clear hys hcon
  go_wp2_with fail
  go_end0
  exact ⟨rfl, HY.out⟩

/-- What each side hands back: the free paths in their order; nothing of an invalid list. -/
def Ordered (L : List Opt) (out : List Nat) : Prop := (okO L = true ∧ IsOrder L out) ∨ (okO L = false ∧ out = [])
theorem ordered_unique {L : List Opt} {a b : List Nat} (h : Ordered L a) (h' : Ordered L b) : a = b := by
  rcases h with ⟨h1, h2⟩ | ⟨h1, h2⟩
  · rcases h' with ⟨k1, k2⟩ | ⟨k1, _⟩
    · exact order_unique h2 k2
    · rw [h1] at k1; cases k1
  · rcases h' with ⟨k1, _⟩ | ⟨_, k2⟩
    · rw [h1] at k1; cases k1
    · rw [h2, k2]
theorem nodup_len : ∀ (n : Nat) (l : List Nat), l.Nodup → (∀ i, i ∈ l → i < n) → l.length ≤ n
  | 0, [], _, _ => Nat.le_refl _
  | 0, a :: t, _, h => absurd (h a List.mem_cons_self) (by omega)
  | n + 1, l, hd, h => by
    have ih := nodup_len n (l.erase n) (hd.erase n) fun i hi => by
      have := (hd.mem_erase_iff).1 hi
      have := h i this.2
      omega
    rw [List.length_erase] at ih
    split at ih <;> omega
theorem order_len {L : List Opt} {out : List Nat} (h : IsOrder L out) : out.length ≤ L.length := by
  exact nodup_len _ _ (h.1.imp fun hab e => by subst e; exact hab.irrefl) fun i hi => ((h.2 i).1 hi).1
theorem ordered_len {L : List Opt} {out : List Nat} (h : Ordered L out) : out.length ≤ L.length := by
  rcases h with ⟨_, h⟩ | ⟨_, h⟩
  · exact order_len h
  · rw [h]; exact Nat.zero_le _
theorem ordered_mem {L : List Opt} {out : List Nat} (h : Ordered L out) : ∀ i, i ∈ out → i < L.length := by
  rcases h with ⟨_, h⟩ | ⟨_, h⟩
  · exact fun i hi => ((h.2 i).1 hi).1
  · rw [h]; intro i hi; simp at hi
/-- A slice of numbers was handed back. -/
def GotOrder (w : World) (L : List Opt) (e : Ending) (w' : World) : Prop :=
  ∃ A c out, e = .returned (.slice A out.length c) ∧ Ordered L out ∧ ((A = none ∧ out = []) ∨ ∃ g, A = some ⟨g, 0, none⟩) ∧ out.length ≤ c ∧ c ≤ maxLen ∧ IntsAt w' A out.length (ints out) ∧ Below w.heap.size w w'

/-- .. and in a block of its own. -/
def GotOrderN (w : World) (L : List Opt) (e : Ending) (w' : World) : Prop :=
  ∃ A c out, e = .returned (.slice A out.length c) ∧ Ordered L out ∧ ((A = none ∧ out = []) ∨ ∃ g, A = some ⟨g, 0, none⟩) ∧ out.length ≤ c ∧ c ≤ maxLen ∧ IntsAt w' A out.length (ints out) ∧ Below w.heap.size w w' ∧ (0 < out.length → ∃ g, A = some ⟨g, 0, none⟩ ∧ w.heap.size ≤ g)

set_option maxHeartbeats 4000000 in
theorem order_iN (A : Option Addr) (n c : Nat) (L : List Opt) (w : World) (h : OptsAt w A n L) (hn : n ≤ 2000000) :
    Calls Try.prog 17 #[.slice A n c] w (GotOrderN w L) := by
  have hl := h.1
  have hAlt : ∀ b off, A = some ⟨b, off, none⟩ → 0 < n → b < w.heap.size := fun b off e hp => by
    obtain ⟨b', off', e', hlt, _⟩ := h.2 hp
    rw [e] at e'
    cases e'
    exact hlt
  go_enter Try.func17, Try.ntmps17
  go_wp2_with fail
  generalize hW : World.alloc _ _ = W
  have hWb : Below w.heap.size w W := by subst hW; exact (Below.refl _ w).alloc (Nat.le_refl _) _
  have hWs : W.heap.size = w.heap.size + 1 := by subst hW; simp
  have hWc : W.cell? ⟨w.heap.size, 0, none⟩ = some (.slice A n c) := by subst hW; simp
  clear hW
  refine (valid_impl A n c L W (h.below hWb) hn).mono ?_
  rintro e w1 ⟨rfl, hb1⟩
  have HB1 : Below w.heap.size w w1 := hWb.trans (hb1.mono hWb.size)
  have hs1 := hb1.size
  have q1 : w1.cell? ⟨w.heap.size, 0, none⟩ = some (.slice A n c) := (hb1.cell (p := ⟨w.heap.size, 0, none⟩) (by show w.heap.size < _; omega)).trans hWc
  cases hok : okO L with
  | false =>
    have HK := hid_of hok
    clear hok
    go_wp2_with fail
    go_ret
    exact ⟨none, 0, [], rfl, .inr ⟨HK.out, rfl⟩, .inl ⟨rfl, rfl⟩, Nat.le_refl _, by unfold maxLen; omega, IntsAt.empty _ _, HB1, fun e => by simp at e⟩
  | true =>
    have hn4 : n ≤ 4 := by have := (okO_iff.1 hok).2; omega
    have hbt : ∀ i, i < n → 1 ≤ (onth L i).t ∧ (onth L i).t ≤ 99 := fun i hi => (optB_iff.1 ((okO_iff.1 hok).1 i (by omega))).1
    have HK := hid_of hok
    have HBT := hid_of hbt
    clear hok hbt
    obtain ⟨wo, rfl⟩ : ∃ wo : World, wo = w1 := ⟨_, rfl⟩
    go_wp2_with fail
    go_loopw [3, 11] (fun s i wr => ∃ (k : Nat) (xs : List Nat) (A1 : Option Addr) (c1 : Nat), i = .int .i64 (k : Nat) ∧ s = .slice A1 xs.length c1 ∧ k ≤ n ∧ xs.length ≤ k ∧ Hid (xs.Pairwise (· < ·) ∧ (∀ z, z ∈ xs ↔ z < k ∧ freeB (onth L z) = true) ∧ (xs.length = 0 → A1 = none)) ∧ IntsIn wr wo.heap.size wr.heap.size A1 xs.length c1 (ints xs) ∧ Below wo.heap.size wo wr)
      (fun _ i _ => n - (intOf i).toNat)
    case atStart => exact ⟨0, [], none, 0, rfl, rfl, Nat.zero_le _, Nat.le_refl _, ⟨List.Pairwise.nil, fun z => by simp, fun _ => rfl⟩, IntsIn.empty _ _ _ _, Below.refl _ _⟩
    case round =>
      obtain ⟨k, xs, A1, c1, rfl, rfl, hk, hxl, HX, hI, hb⟩ := hrel
      have HBr : Below w.heap.size w wr := HB1.trans (hb.mono HB1.size)
      have hsr := hb.size
      by_cases hlt : k < n
      · obtain ⟨g, off, rfl, hgl, hc⟩ := (h.below HBr).2 (by omega)
        obtain ⟨d0, d1, d2, d3⟩ := hc k hlt
        have hno : freeB (onth L k) = false → (∀ z, z ∈ xs ↔ z < k + 1 ∧ freeB (onth L z) = true) := fun hf z => by
          rw [HX.out.2.1 z]
          constructor
          · rintro ⟨h1, h2⟩; exact ⟨by omega, h2⟩
          · rintro ⟨h1, h2⟩
            refine ⟨?_, h2⟩
            rcases (show z < k ∨ z = k from by omega) with e | e
            · exact e
            · rw [e, hf] at h2; cases h2
        have hyes : freeB (onth L k) = true → ((xs ++ [k]).Pairwise (· < ·) ∧ ∀ z, z ∈ xs ++ [k] ↔ z < k + 1 ∧ freeB (onth L z) = true) := fun hf => by
          refine ⟨?_, fun z => ?_⟩
          · rw [List.pairwise_append]
            refine ⟨HX.out.1, by simp, fun a ha b hb => ?_⟩
            simp at hb
            rw [hb]
            exact ((HX.out.2.1 a).1 ha).1
          · rw [List.mem_append, HX.out.2.1 z]
            simp only [List.mem_cons, List.not_mem_nil, or_false]
            constructor
            · rintro (⟨h1, h2⟩ | rfl)
              · exact ⟨by omega, h2⟩
              · exact ⟨by omega, hf⟩
            · rintro ⟨h1, h2⟩
              rcases (show z < k ∨ z = k from by omega) with e | e
              · exact .inl ⟨e, h2⟩
              · exact .inr e
        obtain ⟨⟨a, t, v, f⟩, hx⟩ : ∃ x, x = onth L k := ⟨_, rfl⟩
        rw [← hx] at d0 d1 d2 d3 hno hyes
        dsimp only at d0 d1 d2 d3
        have HN := hid_of hno
        have HY := hid_of hyes
        clear hc hx hno hyes
        cases a with
        | false =>
          go_wp2_with fail
          go_roundw
          case rel => exact ⟨k + 1, xs, A1, c1, by go_num, rfl, by omega, by omega, ⟨HX.out.1, HN.out rfl, HX.out.2.2⟩, (hI.alloc _).mono (Nat.le_refl _) (by simp), hb.alloc hb.size _⟩
          case measure => simp [intOf]; omega
        | true =>
          by_cases hfv : f < v
          · have HF : Hid (freeB ⟨true, t, v, f⟩ = true) := by unfold Hid freeB; simp [hfv]
            go_wp2_with (at_builtin; refine wpList_snoc_ints _ rfl _ _ rfl (k : Int) rfl ((hI.alloc _).alloc _) (by simp; omega) (by omega) rfl (by simp) ?_; intro A2 c2 w5 hI2 ht)
            have hb5 : Below wo.heap.size wo w5 := below_touch ((hb.alloc hb.size _).alloc (by simp; omega) _) ht (Nat.le_refl _) (by simp; omega)
            go_roundw
            case rel => exact ⟨k + 1, xs ++ [k], A2, c2, by go_num, by simp, by omega, by simp; omega, ⟨(HY.out HF.out).1, (HY.out HF.out).2, fun e => by simp at e⟩, by rw [ints_append, show ints [k] = [(k : Int)] from rfl]; simpa using hI2, hb5⟩
            case measure => simp [intOf]; omega
          · have HF : Hid (freeB ⟨true, t, v, f⟩ = false) := by unfold Hid freeB; simp; omega
            have hd : decide (f < v) = false := decide_eq_false hfv
            go_wp2_with fail
            go_roundw
            case rel => exact ⟨k + 1, xs, A1, c1, by go_num, rfl, by omega, by omega, ⟨HX.out.1, HN.out HF.out, HX.out.2.2⟩, (hI.alloc _).mono (Nat.le_refl _) (by simp), hb.alloc hb.size _⟩
            case measure => simp [intOf]; omega
      · have hkn : k = n := by omega
        subst hkn
        clear hlt
        have qr : wr.cell? ⟨w.heap.size, 0, none⟩ = some (.slice A k c) := (hb.cell (p := ⟨w.heap.size, 0, none⟩) (by show w.heap.size < _; omega)).trans q1
        have hfar : 0 < k → ∀ b off, A = some ⟨b, off, none⟩ → b < wo.heap.size := fun hp b off e => by have := hAlt b off e hp; omega
        go_wp2_with fail
        refine (sortStable_any A k c w.heap.size L A1 xs.length c1 xs wr ⟨qr, h.below HBr, by omega, hfar⟩ HBT.out hI (fun z hz => ((HX.out.2.1 z).1 hz).1) HX.out.1 (by omega)).mono ?_
        rintro e w5 ⟨rfl, ys, hy1, hy2, hy3, hI5, ht5⟩
        have HB5 : Below w.heap.size w w5 := below_touch HBr ht5 (by omega) (by omega)
        have HY1 := hid_of hy1
        have HY2 := hid_of hy2
        clear hy1 hy2
        go_wp2_with fail
        go_ret
        have hAf : (A1 = none ∧ ys = []) ∨ ∃ g, A1 = some ⟨g, 0, none⟩ := by
          rcases Nat.eq_zero_or_pos xs.length with e | e
          · exact .inl ⟨HX.out.2.2 e, List.eq_nil_of_length_eq_zero (by omega)⟩
          · obtain ⟨g', e', _⟩ := hI5.at_ e
            exact .inr ⟨g', e'⟩
        refine ⟨A1, c1, ys, by rw [hy3]; rfl, .inl ⟨HK.out, HY1.out, fun z => ?_⟩, hAf, by rw [hy3]; exact hI5.cap.1, hI5.cap.2, by rw [hy3]; exact hI5.reads, HB5, fun e => by
          obtain ⟨g', e', hge, _⟩ := hI5.at_ (by omega)
          exact ⟨g', e', by omega⟩⟩
        rw [HY2.out z, HX.out.2.1 z, hl]

theorem order_i (A : Option Addr) (n c : Nat) (L : List Opt) (w : World) (h : OptsAt w A n L) (hn : n ≤ 2000000) :
    Calls Try.prog 17 #[.slice A n c] w (GotOrder w L) :=
  (order_iN A n c L w h hn).mono fun _ _ ⟨A', c', out, h1, h2, h3, h4, h5, h6, h7, _⟩ => ⟨A', c', out, h1, h2, h3, h4, h5, h6, h7⟩

end Go.Proofs.Ytbmmoncbklcbmaa
