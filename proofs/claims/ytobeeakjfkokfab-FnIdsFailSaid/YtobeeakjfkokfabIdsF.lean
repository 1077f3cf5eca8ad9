/- Searches in lists of identifiers, and copies of them: the library's IndexFunc, ContainsFunc and Clone, the reference's l41On and l41Active. -/
import Derived.Test.YtobeeakjfkokfabIdsA
import Derived.Test.YtobeeakjfkokfabIdsLaws
import Derived.Shelf.Abstract
import Derived.Lib.SliceRun
namespace Go.Proofs.Ytobeeakjfkokfab
open Go.RowKit

theorem info_cid' : (Try.prog.info? 30).map (fun i => (i.zero, i.size, i.bytes)) = some (some (.agg #[.int .i64 0, .int .i64 0, .bool false]), 3, 24) := by kernel_rfl

/-- A new slice that reads L was handed back; nothing that was there has turned. -/
def NewIds (w : World) (L : List Cid) (e : Ending) (w' : World) : Prop :=
  ∃ A n c, e = .returned (.slice A n c) ∧ IdsIn w' w.heap.size w'.heap.size A n c L ∧ Below w.heap.size w w'

/-- A function value answers f of each identifier, and leaves what was there. -/
def PredOf (g : Nat) (lb : Array Value) (f : Cid → Bool) (w : World) : Prop :=
  ∀ (W : World) (x : Cid), Below w.heap.size w W → Calls Try.prog g (#[.agg #[.int .i64 x.v, .int .i64 x.p, .bool x.r]] ++ lb) W fun e w' => e = .returned (.bool (f x)) ∧ Below W.heap.size W w'

theorem pred_on (q : Int) (B : Nat) (w : World) (hB : B < w.heap.size) (hcell : w.cell? ⟨B, 0, none⟩ = some (.int .i64 q)) :
    PredOf 43 #[.pointer (some ⟨B, 0, none⟩)] (fun x => onB x q) w := fun W x hb => by
  have hc : W.cell? ⟨B, 0, none⟩ = some (.int .i64 q) := (hb.cell (p := ⟨B, 0, none⟩) hB).trans hcell
  have hBW : B < W.heap.size := Nat.lt_of_lt_of_le hB hb.size
  have hne : B ≠ W.heap.size := by omega
  obtain ⟨v, p, r⟩ := x
  show Calls Try.prog 43 #[.agg #[.int .i64 v, .int .i64 p, .bool r], .pointer (some ⟨B, 0, none⟩)] W _
  go_enter Try.func43, Try.ntmps43
  go_wp2_with (go_at_call 37; (with_reducible refine (on_any _ _ _ _ _).mono ?_); rintro e w2 ⟨rfl, o1, rfl⟩)
  go_ret
  exact ⟨rfl, by go_grown⟩

theorem pred_val (q : Int) (B : Nat) (w : World) (hB : B < w.heap.size) (hcell : w.cell? ⟨B, 0, none⟩ = some (.int .i64 q)) :
    PredOf 34 #[.pointer (some ⟨B, 0, none⟩)] (fun x => decide (x.v = q)) w := fun W x hb => by
  have hc : W.cell? ⟨B, 0, none⟩ = some (.int .i64 q) := (hb.cell (p := ⟨B, 0, none⟩) hB).trans hcell
  have hBW : B < W.heap.size := Nat.lt_of_lt_of_le hB hb.size
  have hne : B ≠ W.heap.size := by omega
  obtain ⟨v, p, r⟩ := x
  show Calls Try.prog 34 #[.agg #[.int .i64 v, .int .i64 p, .bool r], .pointer (some ⟨B, 0, none⟩)] W _
  go_enter Try.func34, Try.ntmps34
  go_wp2_with fail
  all_goals
    go_ret
    exact ⟨ret_bool (by rw [Bool.eq_iff_iff]; simp), by go_grown⟩

theorem index_any {B S : Nat} (A : Option Addr) (n c : Nat) (L : List Cid) (w : World) (f : Cid → Bool) (g : Nat) (lb : Array Value)
    (eg : ∀ args w, (callFunc g args).run Try.prog w = .ok (.enter g args) w) (h : IdsIn w B S A n c L) (hn : n ≤ 2000000) (hp : PredOf g lb f w) :
    Calls Try.prog 42 #[.slice A n c, .func (.func g) #[] lb] w fun e w' => e = .returned (.int .i64 (idx f L)) ∧ Below w.heap.size w w' := by
  have hl := h.1
  go_enter Try.func42, Try.ntmps42
  go_wp2_with fail
  go_loopw [5, 8] (fun _ i wr => ∃ k : Nat, i = .int .i64 (k : Nat) ∧ k ≤ n ∧ Hid (∀ q, q < k → f (nth L q) = false) ∧ Below w.heap.size w wr) (fun _ i _ => n - (intOf i).toNat)
  case atStart => exact ⟨0, rfl, Nat.zero_le _, fun j hj => by omega, Below.refl _ _⟩
  case round =>
    obtain ⟨k, rfl, hk, HK, hb⟩ := hrel
    by_cases hlt : k < n
    · obtain ⟨g', rfl, _, _, hgl, _, hc⟩ := (h.below hb).at_ (by omega)
      obtain ⟨c0, c1, c2⟩ := hc k hlt
      have hcall := hp wr (nth L k) hb
      obtain ⟨⟨v, p, r⟩, hx⟩ : ∃ x, x = nth L k := ⟨_, rfl⟩
      rw [← hx] at c0 c1 c2 hcall
      dsimp only at c0 c1 c2
      have HX := hid_of hx
      clear hc hx hp
      cases hq : f ⟨v, p, r⟩ with
      | true =>
        rw [hq] at hcall
        have HQ := hid_of hq
        clear hq
        go_wp2_with (go_at_fn g; refine hcall.mono ?_; rintro e w' ⟨rfl, hb'⟩)
        go_ret
        exact ⟨ret_int (idx_found (by omega) (by rw [← HX.out]; exact HQ.out) HK.out).symm, hb.trans (hb'.mono hb.size)⟩
      | false =>
        rw [hq] at hcall
        have HQ := hid_of hq
        clear hq
        go_wp2_with (go_at_fn g; refine hcall.mono ?_; rintro e w' ⟨rfl, hb'⟩)
        go_roundw
        case rel => exact ⟨k + 1, by go_num, by omega, fun q hq => by
          rcases (show q < k ∨ q = k from by omega) with e | e
          · exact HK.out q e
          · rw [e, ← HX.out]; exact HQ.out, hb.trans (hb'.mono hb.size)⟩
        case measure => simp [intOf]; omega
    · have hkn : k = n := by omega
      subst hkn
      clear hlt
      go_wp2_with fail
      go_ret
      exact ⟨ret_int (idx_none (fun q hq => HK.out q (by omega))).symm, hb⟩

theorem contains_any {B S : Nat} (A : Option Addr) (n c : Nat) (L : List Cid) (w : World) (f : Cid → Bool) (g : Nat) (lb : Array Value)
    (eg : ∀ args w, (callFunc g args).run Try.prog w = .ok (.enter g args) w) (h : IdsIn w B S A n c L) (hn : n ≤ 2000000) (hp : PredOf g lb f w) :
    Calls Try.prog 33 #[.slice A n c, .func (.func g) #[] lb] w fun e w' => e = .returned (.bool (L.any f)) ∧ Below w.heap.size w w' := by
  have hl := h.1
  have hcon := index_any A n c L w f g lb eg h hn hp
  have hany : L.any f = decide (0 ≤ idx f L) := by
    rcases idx_cases f L with ⟨e, hno⟩ | ⟨i, hi, e, hy, _⟩
    · rw [e, List.any_eq_false.2]
      · rfl
      · intro x hx
        obtain ⟨i, hi, rfl⟩ := List.mem_iff_getElem.1 hx
        rw [← nth_eq hi, hno i hi]
        simp
    · rw [e, List.any_eq_true.2 ⟨_, nth_mem hi, hy⟩]
      simp
  have H := hid_of hany
  clear hany hp
  go_enter Try.func33, Try.ntmps33
  go_wp2_with (go_at_call 42; refine hcon.mono ?_; rintro e w' ⟨rfl, hb'⟩)
  go_ret
  exact ⟨ret_bool (by rw [H.out]), hb'⟩

theorem idOn_any {B S : Nat} (A : Option Addr) (n c : Nat) (L : List Cid) (w : World) (q : Int) (h : IdsIn w B S A n c L) (hn : n ≤ 2000000) :
    Calls Try.prog 39 #[.slice A n c, .int .i64 q] w fun e w' => e = .returned (.int .i64 (onIdx L q)) ∧ Below w.heap.size w w' := by
  have hcon := index_any A n c L (w.alloc (.cells #[.int .i64 q] 3)) (fun x => onB x q) 43 #[.pointer (some ⟨w.heap.size, 0, none⟩)] (enters_of Try.func43 (by kernel_rfl) rfl) (h.alloc _) hn
    (pred_on q w.heap.size _ (by simp) (by simp))
  go_enter Try.func39, Try.ntmps39
  go_wp2_with (go_at_call 42; refine hcon.mono ?_; rintro e w' ⟨rfl, hb'⟩)
  go_ret
  exact ⟨rfl, ((Below.refl _ w).alloc (Nat.le_refl _) _).trans (hb'.mono (by simp))⟩

set_option maxHeartbeats 1000000 in
theorem clone_any {B S : Nat} (A : Option Addr) (n c : Nat) (L : List Cid) (w : World) (h : IdsIn w B S A n c L) (hn : n ≤ 2000000) :
    Calls Try.prog 32 #[.slice A n c] w (NewIds w L) := by
  obtain ⟨i0, hi0, hz0, hz1, hz2⟩ := info_parts info_cid'
  have q25 : ∀ (w : World) (a : Option Addr) (n c n' c' : Nat), (binOp .eql 23 (.slice a n c) (.slice none n' c')).run Try.prog w = .ok (.bool a.isNone) w := fun w a n c n' c' => Lib.run_eql_slice_nil w _ _ a n c n' c' Try.underlying23
  cases A with
  | none =>
    rcases Nat.eq_zero_or_pos n with rfl | hp
    · obtain rfl : L = [] := List.eq_nil_of_length_eq_zero h.1
      go_enter Try.func32, Try.ntmps32
      go_wp2
      go_ret
      exact ⟨_, _, _, rfl, IdsIn.empty _ _ _, Below.refl _ _⟩
    · obtain ⟨g, e, _⟩ := h.at_ hp
      cases e
  | some x =>
    have hlen := h.2.len
    have hcells : ∀ j u, (cells L)[j]? = some u → w.cell? (x.add j) = some u := by
      intro j u hj
      have hjl : j < n * 3 := by
        have := (List.getElem?_eq_some_iff.1 hj).1
        omega
      obtain ⟨g, e, _, _, _, hc, _⟩ := h.2.blk (by omega)
      cases e
      rw [Addr.add_lit, Nat.zero_add, hc j hjl]
      exact hj
    have HC := hid_of hcells
    clear hcells
    go_enter Try.func32, Try.ntmps32
    go_wp2_with (at_builtin; refine wpList_append_own _ rfl _ _ 23 rfl w.heap.size 30 i0 (.agg #[.int .i64 0, .int .i64 0, .bool false]) 3 24 Try.underlying23 hi0 hz0 hz1 hz2 rfl (by decide) _ _ _ rfl (World.ownsRow_lit w #[] 0 (Nat.le_refl _) (Nat.zero_le _) rfl) x n c (cells L) rfl ?qc1 ?qc2 ?qc3 ?qc4 ?qc5 ?qc6 ?_)
    case qc1 => exact hlen
    case qc2 =>
      intro j u hj
      exact Lib.cell?_alloc_some _ (HC.out j u hj)
    case qc3 => exact cells_one L
    case qc4 => unfold maxLen; omega
    case qc5 => omega
    case qc6 => simp
    intro v' w1 hown hgrow hnil
    obtain ⟨A', c', rfl, hr⟩ := IdsIn.of_own (n := n) (by simpa using hown)
    go_wp2
    go_ret
    exact ⟨_, _, _, rfl, hr, ((Below.refl _ w).alloc (Nat.le_refl _) _).grown hgrow (by simp) (by intro k hk; simp [Value.ownBlock] at hk; omega)⟩

theorem on_spec {B S : Nat} (A : Option Addr) (n c : Nat) (L : List Cid) (w : World) (q : Int) (h : IdsIn w B S A n c L) (hn : n ≤ 2000000) :
    Calls Try.prog 41 #[.slice A n c, .int .i64 q] w fun e w' => e = .returned (.int .i64 (onIdx L q)) ∧ w = w' := by
  have hl := h.1
  go_enter Try.func41, Try.ntmps41
  go_wp2_with fail
  go_loop [5] (fun i => ∃ k : Nat, i = .int .i64 (k : Nat) ∧ k ≤ n ∧ Hid (∀ j, j < k → onB (nth L j) q = false)) (fun i => n - (intOf i).toNat)
  case atStart => exact ⟨0, rfl, Nat.zero_le _, fun j hj => by omega⟩
  case round =>
    obtain ⟨k, rfl, hk, HK⟩ := hrel
    by_cases hlt : k < n
    · obtain ⟨g', rfl, _, _, hgl, _, hc⟩ := h.at_ (by omega)
      obtain ⟨c0, c1, c2⟩ := hc k hlt
      obtain ⟨⟨v, p, r⟩, hx⟩ : ∃ x, x = nth L k := ⟨_, rfl⟩
      rw [← hx] at c0 c1 c2
      dsimp only at c0 c1 c2
      have HX := hid_of hx
      clear hc hx
      have hnext : onB ⟨v, p, r⟩ q = false → ∀ j, j < k + 1 → onB (nth L j) q = false := fun e j hj => by
        rcases (show j < k ∨ j = k from by omega) with e1 | e1
        · exact HK.out j e1
        · rw [e1, ← HX.out]; exact e
      have HN := hid_of hnext
      clear hnext
      cases r with
      | true =>
        go_wp2_with fail
        go_round
        case rel => exact ⟨k + 1, by go_num, by omega, HN.out (by simp [onB])⟩
        case measure => simp [intOf]; omega
      | false =>
        by_cases hpq : p = q
        · subst hpq
          go_wp2_with fail
          go_ret
          exact ⟨ret_int (idx_found (by omega) (by rw [← HX.out]; simp [onB]) HK.out).symm, rfl⟩
        · have hpq' : (p == q) = false := by simpa using hpq
          have HP := hid_of hpq
          clear hpq
          go_wp2_with fail
          go_round
          case rel => exact ⟨k + 1, by go_num, by omega, HN.out (by simp [onB, HP.out])⟩
          case measure => simp [intOf]; omega
    · have hkn : k = n := by omega
      subst hkn
      clear hlt
      go_wp2_with fail
      go_ret
      exact ⟨ret_int (idx_none (fun q hq => HK.out q (by omega))).symm, rfl⟩

theorem act_next {L : List Cid} {k : Nat} (h : k < L.length) : act (L.take (k + 1)) = act (L.take k) + (if (nth L k).r = true then 0 else 1) := by
  rw [List.take_succ_eq_append_getElem h, act_snoc, nth_eq h]
theorem act_small (L : List Cid) : act L ≤ L.length := by unfold act; exact List.countP_le_length

theorem active_spec {B S : Nat} (A : Option Addr) (n c : Nat) (L : List Cid) (w : World) (h : IdsIn w B S A n c L) (hn : n ≤ 2000000) :
    Calls Try.prog 36 #[.slice A n c] w fun e w' => e = .returned (.int .i64 (act L : Nat)) ∧ w = w' := by
  have hl := h.1
  go_enter Try.func36, Try.ntmps36
  go_wp2_with fail
  go_loop [3, 4] (fun a i => ∃ k : Nat, i = .int .i64 (k : Nat) ∧ a = .int .i64 (act (L.take k) : Nat) ∧ k ≤ n) (fun _ i => n - (intOf i).toNat)
  case atStart => exact ⟨0, rfl, rfl, Nat.zero_le _⟩
  case round =>
    obtain ⟨k, rfl, rfl, hk⟩ := hrel
    have hact := act_small (L.take k)
    rw [List.length_take] at hact
    by_cases hlt : k < n
    · obtain ⟨g', rfl, _, _, hgl, _, hc⟩ := h.at_ (by omega)
      obtain ⟨_, _, c2⟩ := hc k hlt
      have hts := act_next (L := L) (k := k) (by omega)
      generalize (nth L k).r = r at c2 hts
      have HT := hid_of hts
      clear hc hts
      cases r with
      | true =>
        go_wp2_with fail
        go_round
        case rel => exact ⟨k + 1, by go_num, by rw [HT.out]; simp, by omega⟩
        case measure => simp [intOf]; omega
      | false =>
        go_wp2_with fail
        go_round
        case rel => exact ⟨k + 1, by go_num, by rw [HT.out]; go_num, by omega⟩
        case measure => simp [intOf]; omega
    · have hkn : k = n := by omega
      subst hkn
      clear hlt
      rw [List.take_of_length_le (by omega)] at *
      go_wp2_with fail
      go_ret
      exact ⟨rfl, rfl⟩

end Go.Proofs.Ytobeeakjfkokfab
