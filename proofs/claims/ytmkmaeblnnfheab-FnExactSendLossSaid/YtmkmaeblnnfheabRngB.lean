/- Searches in lists of ranges, copies, counts, comparisons: the library's IndexFunc, ContainsFunc and Clone, has, RangesHas, RangesCount, sameRanges. -/
import Derived.Test.YtmkmaeblnnfheabRngA
namespace Go.Proofs.Ytmkmaeblnnfheab
open Go.RowKit

/-- A function value answers f of each range, and leaves what was there. -/
def PredOf (g : Nat) (lb : Array Value) (f : Rg → Bool) (w : World) : Prop :=
  ∀ (W : World) (x : Rg), Below w.heap.size w W → Calls Try.prog g (#[.agg #[.int .i64 x.lo, .int .i64 x.hi]] ++ lb) W fun e w' => e = .returned (.bool (f x)) ∧ Below W.heap.size W w'

theorem pred_has (q : Int) (B : Nat) (w : World) (hB : B < w.heap.size) (hcell : w.cell? ⟨B, 0, none⟩ = some (.int .i64 q)) :
    PredOf 83 #[.pointer (some ⟨B, 0, none⟩)] (fun x => inB x q) w := fun W x hb => by
  have hc : W.cell? ⟨B, 0, none⟩ = some (.int .i64 q) := (hb.cell (p := ⟨B, 0, none⟩) hB).trans hcell
  have hBW : B < W.heap.size := Nat.lt_of_lt_of_le hB hb.size
  have hne : B ≠ W.heap.size := by omega
  obtain ⟨lo, hi⟩ := x
  show Calls Try.prog 83 #[.agg #[.int .i64 lo, .int .i64 hi], .pointer (some ⟨B, 0, none⟩)] W _
  go_enter Try.func83, Try.ntmps83
  go_wp2_with (go_at_call 48; (with_reducible refine (within_any _ _ _ _).mono ?_); rintro e w2 ⟨rfl, rfl⟩)
  go_ret
  exact ⟨ret_bool (by rw [Bool.eq_iff_iff]; unfold inB; simp), by go_grown⟩

theorem any_next {f : Rg → Bool} {L : List Rg} {m : Nat} (h : ∀ q, q < m → f (rth L q) = false) (h1 : f (rth L m) = false) (q : Nat) (hq : q < m + 1) : f (rth L q) = false := by
  rcases (show q < m ∨ q = m from by omega) with e | e
  · exact h q e
  · rw [e]; exact h1
theorem any_none {f : Rg → Bool} {L : List Rg} (h : ∀ q, q < L.length → f (rth L q) = false) : L.any f = false := by
  rw [List.any_eq_false]
  intro x hx
  obtain ⟨i, hi, rfl⟩ := mem_rth hx
  rw [h i hi]
  simp
theorem any_some {f : Rg → Bool} {L : List Rg} {k : Nat} (hk : k < L.length) (h : f (rth L k) = true) : L.any f = true := List.any_eq_true.2 ⟨_, rth_mem hk, h⟩

set_option maxHeartbeats 1000000 in
theorem index_any (A : Option Addr) (n c : Nat) (L : List Rg) (w : World) (f : Rg → Bool) (g : Nat) (lb : Array Value)
    (eg : ∀ args w, (callFunc g args).run Try.prog w = .ok (.enter g args) w) (h : RngAt w A n L) (hn : n ≤ 2000000) (hp : PredOf g lb f w) :
    Calls Try.prog 89 #[.slice A n c, .func (.func g) #[] lb] w fun e w' => (∃ v : Int, e = .returned (.int .i64 v) ∧ decide (0 ≤ v) = L.any f) ∧ Below w.heap.size w w' := by
  have hl := hid_of h.1
  go_enter Try.func89, Try.ntmps89
  go_wp2_with fail
  go_loopw [5, 8] (fun _ i wr => ∃ k : Nat, i = .int .i64 (k : Nat) ∧ k ≤ n ∧ Hid (∀ q, q < k → f (rth L q) = false) ∧ Below w.heap.size w wr) (fun _ i _ => n - (intOf i).toNat)
  case atStart => exact ⟨0, rfl, Nat.zero_le _, fun j hj => by omega, Below.refl _ _⟩
  case round =>
    obtain ⟨k, rfl, hk, HK, hb⟩ := hrel
    by_cases hlt : k < n
    · obtain ⟨g', off, rfl, hgl, hc⟩ := (h.below hb).2 (by omega)
      obtain ⟨c0, c1⟩ := hc k hlt
      have hcall := hp wr (rth L k) hb
      obtain ⟨⟨lo, hi⟩, hx⟩ : ∃ x, x = rth L k := ⟨_, rfl⟩
      rw [← hx] at c0 c1 hcall
      dsimp only at c0 c1
      have HX := hid_of hx
      clear hc hx hp
      cases hq : f ⟨lo, hi⟩ with
      | true =>
        rw [hq] at hcall
        have HQ := hid_of hq
        clear hq
        go_wp2_with (go_at_fn g; refine hcall.mono ?_; rintro e w' ⟨rfl, hb'⟩)
        go_ret
        exact ⟨⟨_, rfl, by rw [any_some (k := k) (by rw [hl.out]; exact hlt) (by rw [← HX.out]; exact HQ.out)]; simp⟩, hb.trans (hb'.mono hb.size)⟩
      | false =>
        rw [hq] at hcall
        have HQ := hid_of hq
        clear hq
        go_wp2_with (go_at_fn g; refine hcall.mono ?_; rintro e w' ⟨rfl, hb'⟩)
        go_roundw
        case rel => exact ⟨k + 1, by go_num, by omega, any_next HK.out (by rw [← HX.out]; exact HQ.out), hb.trans (hb'.mono hb.size)⟩
        case measure => simp [intOf]; omega
    · have hkn : k = n := by omega
      subst hkn
      clear hlt
      go_wp2_with fail
      go_ret
      exact ⟨⟨_, rfl, by rw [any_none (L := L) (fun q hq => HK.out q (by rw [hl.out] at hq; exact hq))]; rfl⟩, hb⟩

theorem contains_any (A : Option Addr) (n c : Nat) (L : List Rg) (w : World) (f : Rg → Bool) (g : Nat) (lb : Array Value)
    (eg : ∀ args w, (callFunc g args).run Try.prog w = .ok (.enter g args) w) (h : RngAt w A n L) (hn : n ≤ 2000000) (hp : PredOf g lb f w) :
    Calls Try.prog 82 #[.slice A n c, .func (.func g) #[] lb] w fun e w' => e = .returned (.bool (L.any f)) ∧ Below w.heap.size w w' := by
  have hcon := index_any A n c L w f g lb eg h hn hp
  clear hp h
  go_enter Try.func82, Try.ntmps82
  go_wp2_with (go_at_call 89; refine hcon.mono ?_; rintro e w' ⟨⟨v, rfl, hv⟩, hb'⟩; have HV := hid_of hv; clear hv)
  go_ret
  exact ⟨ret_bool HV.out, hb'⟩

theorem has_any (A : Option Addr) (n c : Nat) (L : List Rg) (w : World) (q : Int) (h : RngAt w A n L) (hn : n ≤ 2000000) :
    Calls Try.prog 62 #[.slice A n c, .int .i64 q] w fun e w' => e = .returned (.bool (memB L q)) ∧ Below w.heap.size w w' := by
  have hcon := contains_any A n c L (w.alloc (.cells #[.int .i64 q] 3)) (fun x => inB x q) 83 #[.pointer (some ⟨w.heap.size, 0, none⟩)] (enters_of Try.func83 (by kernel_rfl) rfl) (h.alloc _) hn
    (pred_has q w.heap.size _ (by simp) (by simp))
  clear h
  go_enter Try.func62, Try.ntmps62
  go_wp2_with (go_at_call 82; refine hcon.mono ?_; rintro e w' ⟨rfl, hb'⟩)
  go_ret
  exact ⟨rfl, ((Below.refl _ w).alloc (Nat.le_refl _) _).trans (hb'.mono (by simp))⟩

theorem rhas_any (A : Option Addr) (n c : Nat) (L : List Rg) (w : World) (q : Int) (h : RngAt w A n L) (hn : n ≤ 2000000) :
    Calls Try.prog 29 #[.slice A n c, .int .i64 q] w fun e w' => e = .returned (.bool (rvB L && memB L q)) ∧ Below w.heap.size w w' := by
  obtain ⟨b, hb⟩ : ∃ b, rvB L = b := ⟨_, rfl⟩
  have HB := hid_of hb
  rw [hb]
  clear hb
  have hrv := rv_impl A n c L w h hn
  rw [HB.out] at hrv
  cases b with
  | false =>
    go_enter Try.func29, Try.ntmps29
    go_wp2_with (go_at_call 67; refine hrv.mono ?_; rintro e w1 ⟨rfl, hb1⟩)
    go_ret
    exact ⟨rfl, hb1⟩
  | true =>
    go_enter Try.func29, Try.ntmps29
    go_wp2_with (first | (go_at_call 67; refine hrv.mono ?_; rintro e w1 ⟨rfl, hb1⟩) | (go_at_call 62; (with_reducible refine (has_any A n c L _ q (h.below hb1) hn).mono ?_); rintro e w2 ⟨rfl, hb2⟩))
    go_ret
    exact ⟨rfl, hb1.trans (hb2.mono hb1.size)⟩

set_option maxHeartbeats 1000000 in
theorem clone_any (A : Option Addr) (c : Nat) (L : List Rg) (w : World) (h : RngAt w A L.length L) (hnone : A = none → c = 0) (hn : L.length ≤ 2000000) :
    Calls Try.prog 75 #[.slice A L.length c] w (GotRng w L) := by
  obtain ⟨i0, hi0, hz0, hz1, hz2⟩ := info_parts info_rng
  have q25 : ∀ (w : World) (a : Option Addr) (n c n' c' : Nat), (binOp .eql 23 (.slice a n c) (.slice none n' c')).run Try.prog w = .ok (.bool a.isNone) w := fun w a n c n' c' => Lib.run_eql_slice_nil w _ _ a n c n' c' Try.underlying23
  cases A with
  | none =>
    have hL : L = [] := by
      cases L with
      | nil => rfl
      | cons r T => obtain ⟨_, _, e, _⟩ := h.2 (by simp); cases e
    subst hL
    go_enter Try.func75, Try.ntmps75
    go_wp2
    go_ret
    exact ⟨_, _, rfl, RngIn.empty _ _ _ _, Below.refl _ _⟩
  | some x =>
    generalize hN : L.length = N at *
    have HNN := hid_of hN
    clear hN
    go_enter Try.func75, Try.ntmps75
    go_wp2_with (at_builtin; refine wpList_copy_rng _ rfl _ _ rfl (base := w.heap.size) (g := w.heap.size) (L := L) rfl (World.ownsRow_lit w #[] 0 (Nat.le_refl _) (Nat.zero_le _) rfl) (by simp) rfl (h.alloc _) (by intro e; cases e) hn ?_; intro A' c' w' hI hg)
    go_ret
    refine ⟨A', c', by rw [HNN.out]; rfl, by rw [HNN.out]; exact hI, ?_⟩
    exact ((Below.refl _ w).alloc (Nat.le_refl _) _).grown hg (by simp) (by intro k hk; simp at hk; omega)

theorem count_next {L : List Rg} {k : Nat} (h : k < L.length) : count (L.take (k + 1)) = count (L.take k) + ((rth L k).hi - (rth L k).lo + 1) := by
  rw [List.take_succ_eq_append_getElem h, count_snoc, rth_eq h]
theorem canon_take {L : List Rg} (h : Canon L) (k : Nat) : Canon (L.take k) := ⟨fun r hr => h.1 r (List.mem_of_mem_take hr), h.2.sublist (List.take_sublist _ _)⟩

set_option maxHeartbeats 1000000 in
/-- The count of a set. -/
theorem count_any (A : Option Addr) (n c : Nat) (L : List Rg) (w : World) (h : RngAt w A n L) (hn : n ≤ 2000000) (hr : rvB L = true) :
    Calls Try.prog 73 #[.slice A n c] w fun e w' => e = .returned (.int .i64 (count L)) ∧ Below w.heap.size w w' := by
  have hl := hid_of h.1
  have hrv := rv_impl A n c L w h hn
  have HR := hid_of (rvB_iff.1 hr)
  rw [hr] at hrv
  clear hr
  have hcb : ∀ k, 0 ≤ count (L.take k) ∧ count (L.take k) ≤ 1000 := fun k => by
    have := count_le (L.take k) 0 1000 (canon_take HR.out.2.1 k) (fun r hr => by have := HR.out.2.2 r (List.mem_of_mem_take hr); omega) (by omega)
    omega
  go_enter Try.func73, Try.ntmps73
  go_wp2_with (go_at_call 67; refine hrv.mono ?_; rintro e w1 ⟨rfl, hb1⟩)
  go_loopw [3, 11] (fun s i wr => ∃ k : Nat, i = .int .i64 (k : Nat) ∧ s = .int .i64 (count (L.take k)) ∧ k ≤ n ∧ Below w.heap.size w wr) (fun _ i _ => n - (intOf i).toNat)
  case atStart => exact ⟨0, rfl, rfl, Nat.zero_le _, hb1⟩
  case round =>
    obtain ⟨k, rfl, rfl, hk, hb⟩ := hrel
    by_cases hlt : k < n
    · obtain ⟨g, off, rfl, hgl, hc⟩ := (h.below hb).2 (by omega)
      obtain ⟨c0, c1⟩ := hc k hlt
      have hnx := count_next (L := L) (k := k) (by rw [hl.out]; exact hlt)
      obtain ⟨hc0, hc1⟩ := hcb k
      obtain ⟨hr0, hr1⟩ := HR.out.2.2 _ (rth_mem (L := L) (i := k) (by rw [hl.out]; exact hlt))
      have hr2 := HR.out.2.1.1 _ (rth_mem (L := L) (i := k) (by rw [hl.out]; exact hlt))
      generalize count (L.take k) = s at *
      generalize (rth L k).lo = lo at *
      generalize (rth L k).hi = hi at *
      have HNX := hid_of hnx
      clear hc hnx hcb
      go_wp2_with fail
      go_roundw
      case rel => exact ⟨k + 1, by go_num, by rw [HNX.out], by omega, ba hb _⟩
      case measure => simp [intOf]; omega
    · have hkn : k = n := by omega
      subst hkn
      clear hlt
      have e : L.take k = L := List.take_of_length_le (by rw [hl.out]; exact Nat.le_refl _)
      rw [e]
      clear e
      go_wp2_with fail
      go_ret
      exact ⟨rfl, hb⟩

/-- Equal lists are found equal. -/
theorem same_any (A A' : Option Addr) (n c c' : Nat) (L : List Rg) (w : World) (h : RngAt w A n L) (h' : RngAt w A' n L) (hn : n ≤ 2000000) :
    Calls Try.prog 28 #[.slice A n c, .slice A' n c'] w fun e w' => e = .returned (.bool true) ∧ Below w.heap.size w w' := by
  go_enter Try.func28, Try.ntmps28
  go_wp2_with fail
  go_loopw [5] (fun i wr => ∃ k, i = .int .i64 (k : Nat) ∧ k ≤ n ∧ Below w.heap.size w wr) (fun i _ => n - (intOf i).toNat)
  case atStart => exact ⟨0, rfl, Nat.zero_le _, Below.refl _ _⟩
  case round =>
    obtain ⟨k, rfl, hk, hb⟩ := hrel
    by_cases hlt : k < n
    · obtain ⟨g, off, rfl, _, hc⟩ := (h.below hb).2 (by omega)
      obtain ⟨g', off', rfl, _, hc'⟩ := (h'.below hb).2 (by omega)
      obtain ⟨c0, c1⟩ := hc k hlt
      obtain ⟨d0, d1⟩ := hc' k hlt
      clear hc hc'
      go_wp2_with fail
      go_quiet (fail)
      go_wp2_with fail
      go_roundw
      case rel => exact ⟨k + 1, by go_num, by omega, below_drewN' hb _⟩
      case measure => simp [intOf]; omega
    · have hkn : k = n := by omega
      subst hkn
      clear hlt
      go_wp2_with fail
      go_ret
      exact ⟨rfl, hb⟩

end Go.Proofs.Ytmkmaeblnnfheab
