/- Lists of options are drawn from a code: they end, and give a list of at most eight options in memory of its own. -/
import Derived.Test.YtbmmoncbklcbmaaDraw2
import Derived.Test.YtbmmoncbklcbmaaOrdT
namespace Go.Proofs.Ytbmmoncbklcbmaa
open Go.RowKit

section
variable {w w' : World} {B S rb : Nat} {A : Option Addr} {n c : Nat} {L : List Opt}
theorem OptsIn.far (h : OptsIn w B S A n c L) (hg : w.grownBy w' (some rb)) (hrb : rb < B) : OptsIn w' B S A n c L := by
  refine ⟨h.1, h.2.1, ?_⟩
  rcases h.2.2 with h0 | ⟨ho, g, rfl, h1, h2, h3⟩
  · exact .inl h0
  · have hr : RowIn 35 4 w B S (some ⟨g, 0, none⟩) n c (ocells L) := ⟨h.2.1, .inr ⟨ho, g, rfl, h1, h2, h3⟩⟩
    rcases (RowIn.same hr (w' := w') hg.size fun g' e hb _ => by cases e; exact hg.block g h3 (by intro e; injection e with e; omega)).2 with h0 | h0
    · exact .inl h0
    · exact .inr h0
end

/-- The reader, and a list in memory that is new since w; of what was there the reader alone has turned. -/
def St (w wr : World) (B rb m : Nat) (A : Option Addr) (c : Nat) (L : List Opt) : Prop :=
  Rd wr B rb m ∧ w.grownBy wr (some rb) ∧ rb < w.heap.size ∧ OptsIn wr w.heap.size wr.heap.size A L.length c L

section
variable {w wr : World} {B rb m : Nat} {A : Option Addr} {c : Nat} {L : List Opt}
theorem St.pick (s : St w wr B rb m A c L) (hm : m ≤ 1000000) (k : Int) (hk : 1 ≤ k) (hk' : k ≤ 1000000) :
    Calls Try.prog 40 #[.pointer (some ⟨rb, 0, none⟩), .int .i64 k] wr fun e w' => ∃ v : Int, e = .returned (.int .i64 v) ∧ 0 ≤ v ∧ v < k ∧ St w w' B rb (m + 1) A c L :=
  (pick_any wr rb m k s.1 (by omega) hk hk').mono fun _ _ ⟨v, he, h0, h1, hr, hg⟩ =>
    ⟨v, he, h0, h1, hr, grown_trans s.2.1 hg, s.2.2.1, (s.2.2.2.far hg s.2.2.1).mono (Nat.le_refl _) hg.size⟩
theorem St.mono (s : St w wr B rb m A c L) {m' : Nat} (h : m ≤ m') : St w wr B rb m' A c L := ⟨s.1.mono h, s.2⟩
theorem St.alloc (s : St w wr B rb m A c L) (o : Obj) : St w (wr.alloc o) B rb m A c L :=
  ⟨s.1.alloc o, grown_alloc s.2.1 o, s.2.2.1, (s.2.2.2.alloc o).mono (Nat.le_refl _) (by simp)⟩
theorem St.stored (s : St w wr B rb m A c L) {g j : Nat} {u : Value} {M : List Opt} (hg : w.heap.size ≤ g) (hI : OptsIn (wr.setCell ⟨g, j, none⟩ u) w.heap.size wr.heap.size A L.length c M) :
    St w (wr.setCell ⟨g, j, none⟩ u) B rb m A c M :=
  ⟨s.1.setCell (by have := s.2.2.1; show rb < g; omega) u, grown_setCell s.2.1 hg u, s.2.2.1, by
    have h1 := hI.1
    rw [h1]
    exact hI.mono (Nat.le_refl _) (by simp [World.setCell])⟩
theorem St.touched (s : St w wr B rb m A c L) {w' : World} {A' : Option Addr} {n' c' : Nat} {M : List Opt} (hI : OptsIn w' w.heap.size w'.heap.size A' n' c' M) (ht : Touch wr w' w.heap.size wr.heap.size) : St w w' B rb m A' c' M := by
  obtain ⟨hr, hgr, hlt, hI0⟩ := s
  have hgr' : w.grownBy w' (some rb) := ⟨ht.os.trans hgr.os, ht.tape.trans hgr.tape, ht.output.trans hgr.output, Nat.le_trans hgr.size ht.size, fun k hk hne => (ht.block k (Nat.lt_of_lt_of_le hk hgr.size) (.inl hk)).trans (hgr.block k hk hne)⟩
  refine ⟨?_, hgr', hlt, by have h1 := hI.1; subst h1; exact hI⟩
  obtain ⟨a, l, c0, q, zs, hblk, hl, hq, hB, hb⟩ := hr
  have hrs := (Array.getElem?_eq_some_iff.1 hblk).1
  refine ⟨a, l, c0, q, zs, (ht.block rb hrs (.inl hlt)).trans hblk, hl, hq, hB, ?_⟩
  rcases hb with hb | ⟨b, off, ha, hne, hc, hz⟩
  · exact .inl hb
  · exact .inr ⟨b, off, ha, hne, fun i hi => (World.cell?_of_block (w := wr) (a := ⟨b, off + i, none⟩) (ht.block b (by omega) (.inl (by omega)))).trans (hc i hi), hz⟩
theorem St.nil (s : St w wr B rb m A c L) : A = none → c = 0 := fun e => by
  rcases s.2.2.2.2.2 with ⟨_, h⟩ | ⟨_, g, e', _⟩
  · exact h
  · rw [e] at e'
    cases e'
theorem St.done {o : Obj} {w' : World} (s : St (w.alloc o) w' w.heap.size w.heap.size m A c L) :
    OptsAt w' A L.length L ∧ Below w.heap.size w w' :=
  ⟨s.2.2.2.reads, ((Below.refl _ w).alloc (Nat.le_refl _) o).trans (below_of_grown s.2.1 (Nat.le_refl _) (by simp))⟩
end

section
variable {ops : Array Oper} {rest : List Oper} {o : Oper} {a : Act} {Q : Exit → Act → World → Prop}
/-- append(out, out...). -/
theorem wpList_twice_opts (w : World) (hg : o.guard = none) (s x : Operand) (hop : o.op = Op.call { callee := Callee.builtin Builtin.append, args := #[s, x], argTypes := #[25, 25] })
    {B S n c : Nat} {A : Option Addr} {L : List Opt} (hs : a.eval s = .slice A n c) (hx : a.eval x = .slice A n c) (h : OptsIn w B S A n c L) (hp : 0 < n) (hB : B ≤ w.heap.size) (hn : n ≤ 2000000)
    (hK : ∀ A' c' w', OptsIn w' B w'.heap.size A' (n + n) c' (L ++ L) → Touch w w' B S → wpList Try.prog ops Q rest (a.put o.dst (.slice A' (n + n) c')) w') :
    wpList Try.prog ops Q (o :: rest) a w := by
  obtain ⟨i0, hi0, hz0, hz1, hz2⟩ := info_parts info_opt
  have hlen : (ocells L).length = n * 4 := by rw [ocells_len, h.1]
  rcases h.2.2 with ⟨rfl, rfl⟩ | ⟨ho, g, rfl, h1, h2, h3⟩
  · omega
  · refine wpList_append_own w hg s x _ hop B 35 i0 (.agg #[.bool false, .int .i64 0, .int .i64 0, .int .i64 0]) 4 32 Try.underlying25 hi0 hz0 hz1 hz2 rfl (by decide) _ _ _ hs ho ⟨g, 0, none⟩ n c (ocells L) hx hlen ?_ (ocells_one L) (by unfold maxLen; omega) (by omega) hB fun v' w' hown' hgr _ => ?_
    · intro j u hj
      have hjl : j < n * 4 := by
        have := (List.getElem?_eq_some_iff.1 hj).1
        omega
      obtain ⟨g', e, _, _, _, hc, _⟩ := h.2.blk hp
      cases e
      rw [Addr.add_lit, Nat.zero_add, hc j hjl]
      exact hj
    · rw [← ocells_append] at hown'
      obtain ⟨A', c', rfl, hr⟩ := OptsIn.of_own hown'
      exact hK _ _ _ hr ⟨hgr.os, hgr.tape, hgr.output, hgr.size, fun k hk hb => hgr.block k hk (by simp [Value.ownBlock]; omega)⟩
end

/-- A list was drawn. -/
def DrawnOpts (w : World) (B rb n : Nat) (e : Ending) (w' : World) : Prop :=
  ∃ A c L, e = .returned (.slice A L.length c) ∧ L.length ≤ 8 ∧ St w w' B rb (n + 100) A c L

set_option maxRecDepth 100000 in
set_option maxHeartbeats 4000000 in
theorem opts_any {B : Nat} (w : World) (rb n : Nat) (h : Rd w B rb n) (hn : n ≤ 1000) :
    Calls Try.prog 34 #[.pointer (some ⟨rb, 0, none⟩)] w (DrawnOpts w B rb n) := by
  have hlt := h.lt
  go_enter Try.func34, Try.ntmps34
  go_wp2_with fail
  go_loopw [3, 4] (fun x i wr => ∃ A c L k m, x = .slice A L.length c ∧ i = .int .i64 (k : Nat) ∧ k ≤ 5 ∧ L.length ≤ k ∧ L.length ≤ 4 ∧ m ≤ n + 6 * k ∧ St w wr B rb m A c L)
    (fun _ i _ => 5 - (intOf i).toNat)
  case atStart => exact ⟨_, 0, [], 0, n, rfl, rfl, by omega, by simp, by simp, by omega, h.alloc _, grown_alloc (grown_refl _ _) _, hlt, OptsIn.empty _ _ _ _⟩
  case round =>
    obtain ⟨A, c, L, k, m, rfl, rfl, hk, hl, hl4, hm, s⟩ := hrel
    go_wp2_with fail
    with_reducible refine (s.pick (by omega) 5 (by omega) (by omega)).mono ?_
    rintro e w1 ⟨v, rfl, hv0, hv1, s⟩
    by_cases hkv : (k : Int) < v
    · go_wp2_with fail
      with_reducible refine (s.pick (by omega) 4 (by omega) (by omega)).mono ?_
      rintro e w2 ⟨y0, rfl, ha0, ha1, s⟩
      go_wp2_with fail
      with_reducible refine (s.pick (by omega) 6 (by omega) (by omega)).mono ?_
      rintro e w3 ⟨y1, rfl, hb0, hb1, s⟩
      go_wp2_with fail
      with_reducible refine (s.pick (by omega) 16 (by omega) (by omega)).mono ?_
      rintro e w4 ⟨y2, rfl, hc0, hc1, s⟩
      have hmul0 : 0 ≤ y1 * y2 := Int.mul_nonneg hb0 hc0
      have hmul1 : y1 * y2 ≤ 5 * 15 := Int.mul_le_mul (by omega) (by omega) hc0 (by omega)
      obtain ⟨z, hz⟩ : ∃ z, z = y1 * y2 := ⟨_, rfl⟩
      rw [← hz] at hmul0 hmul1
      go_wp2_with fail
      with_reducible refine (s.pick (by omega) 20 (by omega) (by omega)).mono ?_
      rintro e w5 ⟨y3, rfl, hd0, hd1, s⟩
      go_wp2_with fail
      with_reducible refine (s.pick (by omega) 16 (by omega) (by omega)).mono ?_
      rintro e w6 ⟨y4, rfl, he0, he1, s⟩
      have hI := s.2.2.2
      have hgs := s.2.1.size
      have hL3 : L.length ≤ 3 ∨ L.length = 4 := by omega
      go_wp2_with (at_builtin; refine wpList_snoc_opts _ rfl _ _ rfl ⟨decide (0 < y0), 1 + y1 * y2, 1 + y3, y4⟩ rfl ((hI.alloc _).alloc _) (by simp; omega) (by omega) rfl (by simp) (by simp) (by simp) (by simp) ?_; intro A2 c2 w7 hI2 ht)
      have t : St w w7 B rb _ A2 c2 (L ++ [⟨decide (0 < y0), 1 + y1 * y2, 1 + y3, y4⟩]) := ((s.alloc _).alloc _).touched hI2 ⟨ht.os, ht.tape, ht.output, ht.size, fun k hk hb => ht.block k hk (by rcases hb with hb | hb; exact .inl hb; exact .inr (by simp at hb; omega))⟩
      go_roundw
      case rel => exact ⟨A2, c2, L ++ [⟨decide (0 < y0), 1 + y1 * y2, 1 + y3, y4⟩], k + 1, _, by simp, by go_num, by omega, by simp; omega, by simp; omega, by omega, t⟩
      case measure => simp [intOf]; omega
    · rcases Nat.eq_zero_or_pos L.length with h0 | hpos
      · obtain rfl : L = [] := List.eq_nil_of_length_eq_zero h0
        go_wp2_with fail
        go_ret
        exact ⟨A, c, [], rfl, by simp, s.mono (by omega)⟩
      · have hne : ((L.length : Int) == 0) = false := by rw [beq_eq_false_iff_ne]; omega
        go_wp2_with fail
        with_reducible refine (s.pick (by omega) L.length (by omega) (by omega)).mono ?_
        rintro e w2 ⟨q0, rfl, hq0, hq1, s⟩
        obtain ⟨q, rfl⟩ := Int.eq_ofNat_of_zero_le hq0
        have hq : q < L.length := by omega
        go_wp2_with fail
        with_reducible refine (s.pick (by omega) 18 (by omega) (by omega)).mono ?_
        rintro e w3 ⟨u, rfl, hu0, hu1, s⟩
        rcases (show u = 0 ∨ u = 1 ∨ u = 2 ∨ u = 3 ∨ 3 < u from by omega) with rfl | rfl | rfl | rfl | hu
        · go_wp2_with fail
          with_reducible refine (s.pick (by omega) 2 (by omega) (by omega)).mono ?_
          rintro e w4 ⟨y, rfl, hy0, hy1, s⟩
          have hI := s.2.2.2
          obtain ⟨g, rfl, hg1, hg2, hgl, hf, hc⟩ := hI.at_ hpos
          obtain ⟨d0, d1, d2, d3⟩ := hc q hq
          have f1 := hf (q * 4 + 1)
          have t := s.stored hg1 (M := setT L q (y * 100)) (by exact hI.storeT hq _)
          clear hc hf
          go_wp2_with fail
          go_ret
          exact ⟨_, c, setT L q (y * 100), by rw [len_setT]; rfl, by rw [len_setT]; omega, t.mono (by omega)⟩
        · go_wp2_with fail
          with_reducible refine (s.pick (by omega) 2 (by omega) (by omega)).mono ?_
          rintro e w4 ⟨y, rfl, hy0, hy1, s⟩
          have hI := s.2.2.2
          obtain ⟨g, rfl, hg1, hg2, hgl, hf, hc⟩ := hI.at_ hpos
          obtain ⟨d0, d1, d2, d3⟩ := hc q hq
          have f1 := hf (q * 4 + 2)
          have t := s.stored hg1 (M := setW L q (y * 65)) (by exact hI.storeW hq _)
          clear hc hf
          go_wp2_with fail
          go_ret
          exact ⟨_, c, setW L q (y * 65), by rw [len_setW]; rfl, by rw [len_setW]; omega, t.mono (by omega)⟩
        · go_wp2_with fail
          with_reducible refine (s.pick (by omega) 2 (by omega) (by omega)).mono ?_
          rintro e w4 ⟨y, rfl, hy0, hy1, s⟩
          have hI := s.2.2.2
          obtain ⟨g, rfl, hg1, hg2, hgl, hf, hc⟩ := hI.at_ hpos
          obtain ⟨d0, d1, d2, d3⟩ := hc q hq
          have f1 := hf (q * 4 + 3)
          have t := s.stored hg1 (M := setF L q (y * 66 - 1)) (by exact hI.storeF hq _)
          clear hc hf
          go_wp2_with fail
          go_ret
          exact ⟨_, c, setF L q (y * 66 - 1), by rw [len_setF]; rfl, by rw [len_setF]; omega, t.mono (by omega)⟩
        · have hI := s.2.2.2
          have hgs := s.2.1.size
          go_wp2_with (at_builtin; refine wpList_twice_opts _ rfl _ _ rfl rfl rfl hI hpos hgs (by omega) ?_; intro A2 c2 w7 hI2 ht)
          go_ret
          exact ⟨A2, c2, L ++ L, by simp, by simp; omega, (s.touched hI2 ht).mono (by omega)⟩
        · have u0 : (u == 0) = false := by simp; omega
          have u1 : (u == 1) = false := by simp; omega
          have u2 : (u == 2) = false := by simp; omega
          have u3 : (u == 3) = false := by simp; omega
          go_wp2_with fail
          go_ret
          exact ⟨A, c, L, rfl, by omega, s.mono (by omega)⟩

/-- A list was drawn for a law. -/
def DrewOpts (w : World) (e : Ending) (w' : World) : Prop :=
  ∃ A c L, e = .returned (.slice A L.length c) ∧ L.length ≤ 8 ∧ (A = none → c = 0) ∧ OptsAt w' A L.length L ∧ Below w.heap.size w w'

theorem drawOrder_any (w : World) (a : Option Addr) (len cap : Nat) (zs : List Int) (h : IsRow .u8 w a len cap zs) :
    Calls Try.prog 16 #[.slice a len cap] w (DrewOpts w) := by
  go_enter Try.func16, Try.ntmps16
  go_wp2_with fail
  refine (open_any w w a len cap zs h h (Nat.le_refl _)).mono ?_
  rintro e w1 ⟨o, rfl, rfl, hr⟩
  go_wp2_with fail
  refine (opts_any _ _ 0 hr (by omega)).mono ?_
  rintro e w2 ⟨A, c, L, rfl, hl, s⟩
  go_wp2_with fail
  go_ret
  exact ⟨A, c, L, rfl, hl, s.nil, s.done⟩
theorem drawPick_any (w : World) (a : Option Addr) (len cap : Nat) (zs : List Int) (h : IsRow .u8 w a len cap zs) :
    Calls Try.prog 20 #[.slice a len cap] w (DrewOpts w) := by
  go_enter Try.func20, Try.ntmps20
  go_wp2_with fail
  refine (open_any w w a len cap zs h h (Nat.le_refl _)).mono ?_
  rintro e w1 ⟨o, rfl, rfl, hr⟩
  go_wp2_with fail
  refine (opts_any _ _ 0 hr (by omega)).mono ?_
  rintro e w2 ⟨A, c, L, rfl, hl, s⟩
  go_wp2_with fail
  go_ret
  exact ⟨A, c, L, rfl, hl, s.nil, s.done⟩
theorem drawTwice_any (w : World) (a : Option Addr) (len cap : Nat) (zs : List Int) (h : IsRow .u8 w a len cap zs) :
    Calls Try.prog 24 #[.slice a len cap] w (DrewOpts w) := by
  go_enter Try.func24, Try.ntmps24
  go_wp2_with fail
  refine (open_any w w a len cap zs h h (Nat.le_refl _)).mono ?_
  rintro e w1 ⟨o, rfl, rfl, hr⟩
  go_wp2_with fail
  refine (opts_any _ _ 0 hr (by omega)).mono ?_
  rintro e w2 ⟨A, c, L, rfl, hl, s⟩
  go_wp2_with fail
  go_ret
  exact ⟨A, c, L, rfl, hl, s.nil, s.done⟩

end Go.Proofs.Ytbmmoncbklcbmaa
