/- Lists of identifiers are drawn from a code: they end, and give a list of at most nine identifiers in memory of its own. -/
import Derived.Test.YtobeeakjfkokfabDraw3
import Derived.Test.YtobeeakjfkokfabIdsH
import Derived.Test.YtobeeakjfkokfabIdsI
namespace Go.Proofs.Ytobeeakjfkokfab
open Go.RowKit

def setV (L : List Cid) (k : Nat) (v : Int) : List Cid := L.set k { nth L k with v := v }
def setB (L : List Cid) (k : Nat) (b : Bool) : List Cid := L.set k { nth L k with r := b }
theorem len_setV {L : List Cid} {k : Nat} {v : Int} : (setV L k v).length = L.length := by unfold setV; exact List.length_set
theorem len_setB {L : List Cid} {k : Nat} {b : Bool} : (setB L k b).length = L.length := by unfold setB; exact List.length_set
theorem cells_setV : ∀ {L : List Cid} {k : Nat} (v : Int), k < L.length → (cells L).set (k * 3) (.int .i64 v) = cells (setV L k v)
  | [], k, _, h => by simp at h
  | a :: L, 0, p, _ => rfl
  | a :: L, k + 1, p, h => by
    have ih := cells_setV (L := L) (k := k) p (by simpa using h)
    have e : setV (a :: L) (k + 1) p = a :: setV L k p := rfl
    rw [e, cells_cons, cells_cons, show (k + 1) * 3 = k * 3 + 1 + 1 + 1 from by omega, ← ih]
    rfl
theorem cells_setB : ∀ {L : List Cid} {k : Nat} (b : Bool), k < L.length → (cells L).set (k * 3 + 2) (.bool b) = cells (setB L k b)
  | [], k, _, h => by simp at h
  | a :: L, 0, b, _ => rfl
  | a :: L, k + 1, b, h => by
    have ih := cells_setB (L := L) (k := k) b (by simpa using h)
    have e : setB (a :: L) (k + 1) b = a :: setB L k b := rfl
    rw [e, cells_cons, cells_cons, show (k + 1) * 3 = k * 3 + 1 + 1 + 1 from by omega, ← ih]
    rfl

section
variable {w w' : World} {B S B' S' rb : Nat} {A : Option Addr} {n c : Nat} {L : List Cid}
theorem IdsIn.storeV {g k : Nat} (h : IdsIn w B S (some ⟨g, 0, none⟩) n c L) (hk : k < n) (p : Int) : IdsIn (w.setCell ⟨g, k * 3, none⟩ (.int .i64 p)) B S (some ⟨g, 0, none⟩) n c (setV L k p) := by
  refine ⟨by rw [len_setV]; exact h.1, ?_⟩
  rw [← cells_setV p (by rw [h.1]; exact hk)]
  exact h.2.stored (by omega) _ _
theorem IdsIn.storeB {g k : Nat} (h : IdsIn w B S (some ⟨g, 0, none⟩) n c L) (hk : k < n) (b : Bool) : IdsIn (w.setCell ⟨g, k * 3 + 2, none⟩ (.bool b)) B S (some ⟨g, 0, none⟩) n c (setB L k b) := by
  refine ⟨by rw [len_setB]; exact h.1, ?_⟩
  rw [← cells_setB b (by rw [h.1]; exact hk)]
  exact h.2.stored (by omega) _ _
theorem IdsIn.far (h : IdsIn w B S A n c L) (hg : w.grownBy w' (some rb)) (hrb : rb < B) : IdsIn w' B S A n c L := by
  refine ⟨h.1, h.2.1, ?_⟩
  rcases h.2.2 with h0 | ⟨ho, g, rfl, h1, h2, h3⟩
  · exact .inl h0
  · have hr : RowIn 30 3 w B S (some ⟨g, 0, none⟩) n c (cells L) := ⟨h.2.1, .inr ⟨ho, g, rfl, h1, h2, h3⟩⟩
    rcases (RowIn.same hr (w' := w') hg.size fun g' e hb _ => by cases e; exact hg.block g h3 (by intro e; injection e with e; omega)).2 with h0 | h0
    · exact .inl h0
    · exact .inr h0
end

/-- The reader, and a list in memory that is new since w; of what was there the reader alone has turned. -/
def St (w wr : World) (B rb m : Nat) (A : Option Addr) (c : Nat) (L : List Cid) : Prop :=
  Rd wr B rb m ∧ w.grownBy wr (some rb) ∧ rb < w.heap.size ∧ IdsIn wr w.heap.size wr.heap.size A L.length c L

section
variable {w wr : World} {B rb m : Nat} {A : Option Addr} {c : Nat} {L : List Cid}
theorem St.pick (s : St w wr B rb m A c L) (hm : m ≤ 1000000) (k : Int) (hk : 1 ≤ k) (hk' : k ≤ 1000000) :
    Calls Try.prog 38 #[.pointer (some ⟨rb, 0, none⟩), .int .i64 k] wr fun e w' => ∃ v : Int, e = .returned (.int .i64 v) ∧ 0 ≤ v ∧ v < k ∧ St w w' B rb (m + 1) A c L :=
  (pick_any wr rb m k s.1 (by omega) hk hk').mono fun _ _ ⟨v, he, h0, h1, hr, hg⟩ =>
    ⟨v, he, h0, h1, hr, grown_trans s.2.1 hg, s.2.2.1, (s.2.2.2.far hg s.2.2.1).mono (Nat.le_refl _) hg.size⟩
theorem grown_of_below {a b : World} (h : Below a.heap.size a b) : a.grownBy b none := ⟨h.os, h.tape, h.output, h.size, fun k hk _ => h.block k hk⟩
theorem St.got (s : St w wr B rb m A c L) {w' : World} {A' : Option Addr} {n' c' : Nat} {M : List Cid} (hI : IdsIn w' wr.heap.size w'.heap.size A' n' c' M) (hb : Below wr.heap.size wr w') : St w w' B rb m A' c' M :=
  ⟨s.1.far (grown_of_below hb) (fun _ e => by cases e), ⟨hb.os.trans s.2.1.os, hb.tape.trans s.2.1.tape, hb.output.trans s.2.1.output, Nat.le_trans s.2.1.size hb.size, fun k hk hr => (hb.block k (Nat.lt_of_lt_of_le hk s.2.1.size)).trans (s.2.1.block k hk hr)⟩, s.2.2.1, by
    have h1 := hI.1
    subst h1
    exact hI.mono s.2.1.size (Nat.le_refl _)⟩
theorem St.mono (s : St w wr B rb m A c L) {m' : Nat} (h : m ≤ m') : St w wr B rb m' A c L := ⟨s.1.mono h, s.2⟩
theorem St.alloc (s : St w wr B rb m A c L) (o : Obj) : St w (wr.alloc o) B rb m A c L :=
  ⟨s.1.alloc o, grown_alloc s.2.1 o, s.2.2.1, (s.2.2.2.alloc o).mono (Nat.le_refl _) (by simp)⟩
/-- A store into the list's block. -/
theorem St.stored (s : St w wr B rb m A c L) {g j : Nat} {u : Value} {M : List Cid} (hg : w.heap.size ≤ g) (hI : IdsIn (wr.setCell ⟨g, j, none⟩ u) w.heap.size wr.heap.size A L.length c M) :
    St w (wr.setCell ⟨g, j, none⟩ u) B rb m A c M :=
  ⟨s.1.setCell (by have := s.2.2.1; show rb < g; omega) u, grown_setCell s.2.1 hg u, s.2.2.1, by
    have h1 := hI.1
    rw [h1]
    exact hI.mono (Nat.le_refl _) (by simp [World.setCell])⟩
theorem St.touched (s : St w wr B rb m A c L) {w' : World} {A' : Option Addr} {n' c' : Nat} {M : List Cid} (hI : IdsIn w' w.heap.size w'.heap.size A' n' c' M) (ht : Touch wr w' w.heap.size wr.heap.size) : St w w' B rb m A' c' M := by
  have hg : wr.grownBy w' (some w'.heap.size) ∨ True := .inr trivial
  clear hg
  obtain ⟨hr, hgr, hlt, hI0⟩ := s
  have hgr' : w.grownBy w' (some rb) := ⟨ht.os.trans hgr.os, ht.tape.trans hgr.tape, ht.output.trans hgr.output, Nat.le_trans hgr.size ht.size, fun k hk hne => (ht.block k (Nat.lt_of_lt_of_le hk hgr.size) (.inl hk)).trans (hgr.block k hk hne)⟩
  refine ⟨?_, hgr', hlt, by have h1 := hI.1; subst h1; exact hI⟩
  obtain ⟨a, l, c0, q, zs, hblk, hl, hq, hB, hb⟩ := hr
  have hrs := (Array.getElem?_eq_some_iff.1 hblk).1
  refine ⟨a, l, c0, q, zs, (ht.block rb hrs (.inl hlt)).trans hblk, hl, hq, hB, ?_⟩
  rcases hb with hb | ⟨b, off, ha, hne, hc, hz⟩
  · exact .inl hb
  · exact .inr ⟨b, off, ha, hne, fun i hi => (World.cell?_of_block (w := wr) (a := ⟨b, off + i, none⟩) (ht.block b (by omega) (.inl (by omega)))).trans (hc i hi), hz⟩
end

/-- A value is drawn. -/
theorem value_any {B : Nat} (w : World) (rb n : Nat) (h : Rd w B rb n) (hn : n ≤ 1000000) :
    Calls Try.prog 30 #[.pointer (some ⟨rb, 0, none⟩)] w (Drawn w B rb n 2 (-1) 10000) := by
  have hlt := h.lt
  go_enter Try.func30, Try.ntmps30
  go_wp2_with fail
  refine (pick_any w rb n 12 h (by omega) (by omega) (by omega)).mono ?_
  rintro e w1 ⟨k, rfl, hk0, hk1, hr1, hg1⟩
  by_cases hk : k = 0
  · subst hk
    have hs := hg1.size
    go_wp2_with fail
    refine (pick_any _ rb (n + 1) 4 (hr1.alloc _) (by omega) (by omega) (by omega)).mono ?_
    rintro e w2 ⟨j, rfl, hj0, hj1, hr2, hg2⟩
    have c0 := far_cell hg2 (b := w1.heap.size) (j := 0) (World.cell?_alloc_new _ _ _ _) (by omega)
    have c1 := far_cell hg2 (b := w1.heap.size) (j := 1) (World.cell?_alloc_new _ _ _ _) (by omega)
    have c2 := far_cell hg2 (b := w1.heap.size) (j := 2) (World.cell?_alloc_new _ _ _ _) (by omega)
    have c3 := far_cell hg2 (b := w1.heap.size) (j := 3) (World.cell?_alloc_new _ _ _ _) (by omega)
    have hg := grown_trans (grown_alloc hg1 _) hg2
    rcases (show j = 0 ∨ j = 1 ∨ j = 2 ∨ j = 3 from by omega) with rfl | rfl | rfl | rfl
    all_goals
      go_wp2
      go_returns
      exact ⟨_, rfl, by omega, by omega, hr2, hg⟩
  · have hk' : (k == 0) = false := by simp; omega
    go_wp2_with fail
    refine (pick_any _ rb (n + 1) 14 hr1 (by omega) (by omega) (by omega)).mono ?_
    rintro e w2 ⟨j, rfl, hj0, hj1, hr2, hg2⟩
    have hg := grown_trans hg1 hg2
    go_wp2
    go_returns
    exact ⟨_, rfl, by omega, by omega, hr2, hg⟩

/-- The number of a path is drawn. -/
theorem pathno_any {B : Nat} (w : World) (rb n : Nat) (h : Rd w B rb n) (hn : n ≤ 1000000) :
    Calls Try.prog 44 #[.pointer (some ⟨rb, 0, none⟩)] w (Drawn w B rb n 2 (-1) 4) := by
  have hlt := h.lt
  go_enter Try.func44, Try.ntmps44
  go_wp2_with fail
  refine (pick_any w rb n 14 h (by omega) (by omega) (by omega)).mono ?_
  rintro e w1 ⟨k, rfl, hk0, hk1, hr1, hg1⟩
  by_cases hk : k = 0
  · subst hk
    go_wp2_with fail
    refine (pick_any _ rb (n + 1) 2 hr1 (by omega) (by omega) (by omega)).mono ?_
    rintro e w2 ⟨j, rfl, hj0, hj1, hr2, hg2⟩
    have hg := grown_trans hg1 hg2
    rcases (show j = 0 ∨ j = 1 from by omega) with rfl | rfl
    all_goals
      go_wp2
      go_returns
      exact ⟨_, rfl, by omega, by omega, hr2, hg⟩
  · have hk' : (k == 0) = false := by simp; omega
    go_wp2_with fail
    refine (pick_any _ rb (n + 1) 4 hr1 (by omega) (by omega) (by omega)).mono ?_
    rintro e w2 ⟨j, rfl, hj0, hj1, hr2, hg2⟩
    have hg := grown_trans hg1 hg2
    go_wp2
    go_returns
    exact ⟨_, rfl, by omega, by omega, hr2, hg⟩

section
variable {w wr : World} {B rb m : Nat} {A : Option Addr} {c : Nat} {L : List Cid}
theorem St.value (s : St w wr B rb m A c L) (hm : m ≤ 1000000) :
    Calls Try.prog 30 #[.pointer (some ⟨rb, 0, none⟩)] wr fun e w' => ∃ v : Int, e = .returned (.int .i64 v) ∧ -1 ≤ v ∧ v ≤ 10000 ∧ St w w' B rb (m + 2) A c L :=
  (value_any wr rb m s.1 hm).mono fun _ _ ⟨v, he, h0, h1, hr, hg⟩ =>
    ⟨v, he, h0, h1, hr, grown_trans s.2.1 hg, s.2.2.1, (s.2.2.2.far hg s.2.2.1).mono (Nat.le_refl _) hg.size⟩
theorem St.issue (s : St w wr B rb m A c L) (hl : L.length ≤ 8) (v : Int) :
    Calls Try.prog 13 #[.slice A L.length c, .int .i64 v] wr fun e w' => ∃ A' c' M k b, e = .returned (.tuple #[.slice A' M.length c', .int .i64 k, .bool b]) ∧ (b = true → M.length ≤ 8) ∧ St w w' B rb m A' c' M ∧ St w w' B rb m A c L :=
  (idsIssue_s A _ c L wr v s.2.2.2 (by omega)).mono fun _ _ ⟨A', n', c', he, hI, hb⟩ => by
    have h1 := hI.1
    subst h1
    refine ⟨A', c', _, _, _, he, fun hb' => ?_, s.got hI hb, ?_⟩
    · rcases issue_cases L v with e | ⟨e, _⟩ | ⟨e, _, h8, _⟩ <;> rw [e] at hb' ⊢
      · cases hb'
      · cases hb'
      · simp; omega
    · have t := s.got hI hb
      exact ⟨t.1, t.2.1, t.2.2.1, (s.2.2.2.below hb).mono (Nat.le_refl _) hb.size⟩
theorem St.assign (s : St w wr B rb m A c L) (hl : L.length ≤ 8) (v : Int) :
    Calls Try.prog 23 #[.slice A L.length c, .int .i64 v] wr fun e w' => ∃ A' c' M k b, e = .returned (.tuple #[.slice A' M.length c', .int .i64 k, .bool b]) ∧ M.length ≤ 8 ∧ St w w' B rb m A' c' M :=
  (idsAssign_s A _ c L wr v s.2.2.2 (by omega)).mono fun _ _ ⟨A', n', c', he, hI, hb⟩ => by
    have h1 := hI.1
    subst h1
    exact ⟨A', c', _, _, _, he, by have := len_assign L v; omega, s.got hI hb⟩
theorem St.migrate (s : St w wr B rb m A c L) (hl : L.length ≤ 8) (v : Int) :
    Calls Try.prog 27 #[.slice A L.length c, .int .i64 v] wr fun e w' => ∃ A' c' M k b, e = .returned (.tuple #[.slice A' M.length c', .int .i64 k, .bool b]) ∧ M.length ≤ 8 ∧ St w w' B rb m A' c' M :=
  (idsMigrate_s A _ c L wr v s.2.2.2 (by omega)).mono fun _ _ ⟨A', n', c', he, hI, hb⟩ => by
    have h1 := hI.1
    subst h1
    exact ⟨A', c', _, _, _, he, by have := len_migrate L v; omega, s.got hI hb⟩
theorem St.retire (s : St w wr B rb m A c L) (hl : L.length ≤ 8) (v : Int) :
    Calls Try.prog 19 #[.slice A L.length c, .int .i64 v] wr fun e w' => ∃ A' c' M b, e = .returned (.tuple #[.slice A' M.length c', .bool b]) ∧ M.length ≤ 8 ∧ St w w' B rb m A' c' M :=
  (idsRetire_s A _ c L wr v s.2.2.2 (by omega)).mono fun _ _ ⟨A', n', c', he, hI, hb⟩ => by
    have h1 := hI.1
    subst h1
    exact ⟨A', c', _, _, he, by have := len_retire L v; omega, s.got hI hb⟩
end

/-- A list was drawn. -/
def DrawnIds (w : World) (B rb n : Nat) (e : Ending) (w' : World) : Prop :=
  ∃ A c L, e = .returned (.slice A L.length c) ∧ L.length ≤ 9 ∧ St w w' B rb (n + 100) A c L

set_option maxRecDepth 100000 in
set_option maxHeartbeats 2000000 in
theorem ids_any {B : Nat} (w : World) (rb n : Nat) (h : Rd w B rb n) (hn : n ≤ 1000) :
    Calls Try.prog 29 #[.pointer (some ⟨rb, 0, none⟩)] w (DrawnIds w B rb n) := by
  have hlt := h.lt
  go_enter Try.func29, Try.ntmps29
  go_wp2_with fail
  go_loopw [3, 4] (fun x i wr => ∃ A c L k m, x = .slice A L.length c ∧ i = .int .i64 (k : Nat) ∧ k ≤ 16 ∧ L.length ≤ 8 ∧ m ≤ n + 4 * k ∧ St w wr B rb m A c L)
    (fun _ i _ => 16 - (intOf i).toNat)
  case atStart => exact ⟨_, 0, [], 0, n, rfl, rfl, by omega, by simp, by omega, h.alloc _, grown_alloc (grown_refl _ _) _, hlt, IdsIn.empty _ _ _⟩
  case round =>
    obtain ⟨A, c, L, k, m, rfl, rfl, hk, hl, hm, s⟩ := hrel
    go_wp2_with fail
    with_reducible refine (s.pick (by omega) 16 (by omega) (by omega)).mono ?_
    rintro e w1 ⟨v, rfl, hv0, hv1, s⟩
    by_cases hkv : (k : Int) < v
    · go_wp2_with fail
      with_reducible refine (s.pick (by omega) 5 (by omega) (by omega)).mono ?_
      rintro e w2 ⟨u, rfl, hu0, hu1, s⟩
      rcases (show u = 0 ∨ u = 1 ∨ u = 2 ∨ u = 3 ∨ u = 4 from by omega) with rfl | rfl | rfl | rfl | rfl
      · go_wp2_with fail
        with_reducible refine (s.value (by omega)).mono ?_
        rintro e w3 ⟨y, rfl, _, _, s⟩
        go_wp2_with fail
        with_reducible refine (s.issue hl y).mono ?_
        rintro e w4 ⟨A', c', M, z, b, rfl, hM, s', s⟩
        cases b with
        | true =>
          go_wp2_with fail
          go_roundw
          case rel => exact ⟨A', c', M, k + 1, _, rfl, by go_num, by omega, (hM trivial), by omega, s'⟩
          case measure => simp [intOf]; omega
        | false =>
          go_wp2_with fail
          go_roundw
          case rel => exact ⟨A, c, L, k + 1, _, rfl, by go_num, by omega, hl, by omega, s⟩
          case measure => simp [intOf]; omega
      · go_wp2_with fail
        with_reducible refine (s.value (by omega)).mono ?_
        rintro e w3 ⟨y, rfl, _, _, s⟩
        go_wp2_with fail
        with_reducible refine (s.issue hl y).mono ?_
        rintro e w4 ⟨A', c', M, z, b, rfl, hM, s', s⟩
        cases b with
        | true =>
          go_wp2_with fail
          go_roundw
          case rel => exact ⟨A', c', M, k + 1, _, rfl, by go_num, by omega, (hM trivial), by omega, s'⟩
          case measure => simp [intOf]; omega
        | false =>
          go_wp2_with fail
          go_roundw
          case rel => exact ⟨A, c, L, k + 1, _, rfl, by go_num, by omega, hl, by omega, s⟩
          case measure => simp [intOf]; omega
      · go_wp2_with fail
        with_reducible refine (s.pick (by omega) 4 (by omega) (by omega)).mono ?_
        rintro e w3 ⟨y, rfl, _, _, s⟩
        go_wp2_with fail
        with_reducible refine (s.assign hl y).mono ?_
        rintro e w4 ⟨A', c', M, z, b, rfl, hM, s'⟩
        go_wp2_with fail
        go_roundw
        case rel => exact ⟨A', c', M, k + 1, _, rfl, by go_num, by omega, hM, by omega, s'⟩
        case measure => simp [intOf]; omega
      · go_wp2_with fail
        with_reducible refine (s.pick (by omega) 8 (by omega) (by omega)).mono ?_
        rintro e w3 ⟨y, rfl, _, _, s⟩
        go_wp2_with fail
        with_reducible refine (s.retire hl y).mono ?_
        rintro e w4 ⟨A', c', M, b, rfl, hM, s'⟩
        go_wp2_with fail
        go_roundw
        case rel => exact ⟨A', c', M, k + 1, _, rfl, by go_num, by omega, hM, by omega, s'⟩
        case measure => simp [intOf]; omega
      · go_wp2_with fail
        with_reducible refine (s.pick (by omega) 4 (by omega) (by omega)).mono ?_
        rintro e w3 ⟨y, rfl, _, _, s⟩
        go_wp2_with fail
        with_reducible refine (s.migrate hl y).mono ?_
        rintro e w4 ⟨A', c', M, z, b, rfl, hM, s'⟩
        go_wp2_with fail
        go_roundw
        case rel => exact ⟨A', c', M, k + 1, _, rfl, by go_num, by omega, hM, by omega, s'⟩
        case measure => simp [intOf]; omega
    · rcases Nat.eq_zero_or_pos L.length with h0 | hpos
      · obtain rfl : L = [] := List.eq_nil_of_length_eq_zero h0
        go_wp2_with fail
        go_ret
        exact ⟨A, c, [], rfl, by simp, s.mono (by omega)⟩
      · have hne : ((L.length : Int) == 0) = false := by rw [beq_eq_false_iff_ne]; omega
        go_wp2_with fail
        with_reducible refine (s.pick (by omega) L.length (by omega) (by omega)).mono ?_
        rintro e w2 ⟨q0, rfl, hq0, hq1, s⟩
        obtain ⟨q, rfl⟩ := Int.eq_ofNat_of_zero_le hq0
        have hq : q < L.length := by omega
        go_wp2_with fail
        with_reducible refine (s.pick (by omega) 16 (by omega) (by omega)).mono ?_
        rintro e w3 ⟨u, rfl, hu0, hu1, s⟩
        rcases (show u = 0 ∨ u = 1 ∨ u = 2 ∨ u = 3 ∨ 3 < u from by omega) with rfl | rfl | rfl | rfl | hu
        · go_wp2_with fail
          with_reducible refine (s.value (by omega)).mono ?_
          rintro e w4 ⟨y, rfl, _, _, s⟩
          have hI := s.2.2.2
          obtain ⟨g, rfl, hg1, hg2, hgl, hf, hc⟩ := hI.at_ hpos
          obtain ⟨c0, c1, c2⟩ := hc q hq
          have f0 := hf (q * 3)
          have t := s.stored hg1 (M := setV L q y) (by exact hI.storeV hq y)
          clear hc hf
          go_wp2_with fail
          go_ret
          exact ⟨_, c, setV L q y, by rw [len_setV]; rfl, by rw [len_setV]; omega, t.mono (by omega)⟩
        · go_wp2_with fail
          with_reducible refine (s.pick (by omega) 7 (by omega) (by omega)).mono ?_
          rintro e w4 ⟨y, rfl, hy0, hy1, s⟩
          have hI := s.2.2.2
          obtain ⟨g, rfl, hg1, hg2, hgl, hf, hc⟩ := hI.at_ hpos
          obtain ⟨c0, c1, c2⟩ := hc q hq
          have f1 := hf (q * 3 + 1)
          have t := s.stored hg1 (M := setP L q (y - 2)) (by exact hI.storeP hq (y - 2))
          clear hc hf
          go_wp2_with fail
          go_ret
          exact ⟨_, c, setP L q (y - 2), by rw [len_setP]; rfl, by rw [len_setP]; omega, t.mono (by omega)⟩
        · have hI := s.2.2.2
          obtain ⟨g, rfl, hg1, hg2, hgl, hf, hc⟩ := hI.at_ hpos
          obtain ⟨c0, c1, c2⟩ := hc q hq
          have f2 := hf (q * 3 + 2)
          have t := s.stored hg1 (M := setB L q (!(nth L q).r)) (by exact hI.storeB hq (!(nth L q).r))
          clear hc hf
          go_wp2_with fail
          go_ret
          exact ⟨_, c, setB L q (!(nth L q).r), by rw [len_setB]; rfl, by rw [len_setB]; omega, t.mono (by omega)⟩
        · go_wp2_with fail
          with_reducible refine (s.pick (by omega) 3 (by omega) (by omega)).mono ?_
          rintro e w4 ⟨y1, rfl, hy10, hy11, s⟩
          go_wp2_with fail
          with_reducible refine (s.pick (by omega) 5 (by omega) (by omega)).mono ?_
          rintro e w5 ⟨y2, rfl, hy20, hy21, s⟩
          go_wp2_with fail
          with_reducible refine (s.pick (by omega) 2 (by omega) (by omega)).mono ?_
          rintro e w6 ⟨y3, rfl, hy30, hy31, s⟩
          have hI := s.2.2.2
          have hgs := s.2.1.size
          go_wp2_with (at_builtin; refine wpList_snoc_ids _ rfl _ _ rfl ⟨30 + y1, y2 - 1, y3 == 0⟩ rfl (hI.alloc _) (by simp; omega) (by omega) rfl (by simp) (by simp) (by simp) ?_; intro A2 c2 w7 hI2 ht)
          go_ret
          have t : St w w7 B rb _ A2 c2 (L ++ [⟨30 + y1, y2 - 1, y3 == 0⟩]) := (s.alloc _).touched hI2 ⟨ht.os, ht.tape, ht.output, ht.size, fun k hk hb => ht.block k hk (by rcases hb with hb | hb; exact .inl hb; exact .inr (by simp at hb; omega))⟩
          exact ⟨A2, c2, L ++ [⟨30 + y1, y2 - 1, y3 == 0⟩], by simp, by simp; omega, t.mono (by omega)⟩
        · have u0 : (u == 0) = false := by simp; omega
          have u1 : (u == 1) = false := by simp; omega
          have u2 : (u == 2) = false := by simp; omega
          have u3 : (u == 3) = false := by simp; omega
          go_wp2_with fail
          go_ret
          exact ⟨A, c, L, rfl, by omega, s.mono (by omega)⟩

end Go.Proofs.Ytobeeakjfkokfab
