/- Drawing numbers from a code: the reader (a block of its own that holds the bytes and a place), and what one pick does. -/
import Derived.Test.YteajojhfcllodaaChecked
import Derived.WalkKit
import Derived.KernelRfl
import Derived.Handy
import Derived.Lib.Hide
import Derived.BigQuiet
import Derived.Laws.BitsAllLaws
import Derived.Laws.BitsLemmas
namespace Go.Proofs.Yteajojhfcllodaa
open Go.RowKit

/-- Bytes in a row. -/
def BytesAt (w : World) (a : Option Addr) (l B : Nat) (zs : List Int) : Prop :=
  l = 0 ∨ ∃ b off, a = some ⟨b, off, none⟩ ∧ b < B ∧ (∀ i, i < l → w.cell? ⟨b, off + i, none⟩ = some (.int .u8 (zs.getD i 0))) ∧ ∀ i, 0 ≤ zs.getD i 0 ∧ zs.getD i 0 ≤ 255

/-- Block rb is a reader that has made at most n picks. -/
def Rd (w : World) (B rb n : Nat) : Prop :=
  ∃ (a : Option Addr) (l c p : Nat) (zs : List Int), w.heap[rb]? = some (.cells #[.slice a l c, .int .i64 p] 47 (0, 0)) ∧ l ≤ 2000 ∧ p ≤ n ∧ B ≤ rb ∧ BytesAt w a l B zs

/-- What a pick of fewer than m leaves: a number below m; the reader alone has turned. -/
def Picked (w : World) (B rb n : Nat) (m : Int) (e : Ending) (w' : World) : Prop :=
  ∃ k : Int, e = .returned (.int .i64 k) ∧ 0 ≤ k ∧ k < m ∧ Rd w' B rb (n + 1) ∧ w.grownBy w' (some rb)

variable {B : Nat}
theorem rd_step {w : World} {rb n : Nat} {a : Option Addr} {l c p : Nat} {zs : List Int} (h : w.heap[rb]? = some (.cells #[.slice a l c, .int .i64 p] 47 (0, 0))) (hl : l ≤ 2000) (hp : p ≤ n) (hB : B ≤ rb) (hb : BytesAt w a l B zs) (d : Nat) :
    Rd ((w.setCell ⟨rb, 1, none⟩ (.int .i64 ((p : Int) + 1))).drewN d) B rb (n + 1) ∧ w.grownBy ((w.setCell ⟨rb, 1, none⟩ (.int .i64 ((p : Int) + 1))).drewN d) (some rb) := by
  refine ⟨⟨a, l, c, p + 1, zs, ?_, hl, by omega, hB, ?_⟩, ⟨rfl, rfl, rfl, by simp [World.setCell, World.drewN], fun k _ hk => ?_⟩⟩
  · show (w.setCell ⟨rb, 1, none⟩ (.int .i64 ((p : Int) + 1))).heap[rb]? = _
    simp only [World.setCell, Array.getElem?_modify, h]
    simp
  · rcases hb with hb | ⟨b, off, ha, hne, hc, hz⟩
    · exact .inl hb
    · refine .inr ⟨b, off, ha, hne, fun i hi => ?_, hz⟩
      exact (World.cell?_of_block (w := w) (a := ⟨b, off + i, none⟩) (Below.heap_setCell w ⟨rb, 1, none⟩ _ b (by show b ≠ rb; omega))).trans (hc i hi)
  · exact Below.heap_setCell w ⟨rb, 1, none⟩ _ k (fun e => hk (by rw [e]))

theorem i64_xor_nonneg (x y : Int) (hx : 0 ≤ x) (hx' : x < 9223372036854775808) (hy : 0 ≤ y) (hy' : y < 9223372036854775808) : 0 ≤ bits .xor .i64 x y := by
  obtain ⟨a, rfl⟩ := Int.eq_ofNat_of_zero_le hx
  obtain ⟨b, rfl⟩ := Int.eq_ofNat_of_zero_le hy
  have ha : a < 9223372036854775808 := by omega
  have hb : b < 9223372036854775808 := by omega
  have hn : ∀ c : Nat, c < 9223372036854775808 → (BitVec.ofInt 64 (c : Int)).toNat = c := by
    intro c hc
    rw [BitVec.ofInt_natCast, BitVec.toNat_ofNat]
    exact Nat.mod_eq_of_lt (by omega)
  have hlt : a ^^^ b < 2 ^ 63 := Nat.xor_lt_two_pow (by omega) (by omega)
  show 0 ≤ IntKind.i64.wrap ((BitVec.ofInt 64 (a : Int) ^^^ BitVec.ofInt 64 (b : Int)).toNat : Int)
  rw [BitVec.toNat_xor, hn a ha, hn b hb, IntKind.wrap_i64]
  omega

set_option maxHeartbeats 1000000 in
theorem pick_any (w : World) (rb n : Nat) (m : Int) (h : Rd w B rb n) (hn : n ≤ 1000000000) (hm : 1 ≤ m) (hm' : m ≤ 1000000) :
    Calls Try.prog 34 #[.pointer (some ⟨rb, 0, none⟩), .int .i64 m] w (Picked w B rb n m) := by
  obtain ⟨a, l, c, p, zs, hblk, hl, hp, hB, hbytes⟩ := h
  have c0 := cell_of_row _ _ 0 _ _ _ hblk
  have c1 := cell_of_row _ _ 1 _ _ _ hblk
  have f0 := frozen_of_row w rb 0 _ _ hblk
  have f1 := frozen_of_row w rb 1 _ _ hblk
  simp at c0 c1
  by_cases hl0 : l = 0
  · subst hl0
    have step := rd_step hblk hl hp hB hbytes 0
    have S := Lib.hid step
    clear step
    go_enter Try.func34, Try.ntmps34
    go_wp2
    go_returns
    exact ⟨0, rfl, by omega, by omega, S.out⟩
  · obtain ⟨b, off, rfl, hne, hc, hz⟩ := hbytes.resolve_left hl0
    have hlp : (0 : Int) < (l : Int) := by omega
    have hle : ((l : Int) == 0) = false := by simp; omega
    have cell : ∀ i, i < l → (w.setCell ⟨rb, 1, none⟩ (.int .i64 ((p : Int) + 1))).cell? ⟨b, off + i, none⟩ = some (.int .u8 (zs.getD i 0)) := fun i hi =>
      (World.cell?_of_block (w := w) (a := ⟨b, off + i, none⟩) (Below.heap_setCell w ⟨rb, 1, none⟩ _ b (by show b ≠ rb; omega))).trans (hc i hi)
    by_cases hlt : p < l
    · have step := rd_step hblk hl hp hB hbytes 0
      have S := Lib.hid step
      have hcp := cell p hlt
      have hzp := hz p
      obtain ⟨z, hzz⟩ : ∃ z, z = zs.getD p 0 := ⟨_, rfl⟩
      rw [← hzz] at hcp hzp
      obtain ⟨hz0, hz1⟩ := hzp
      clear step cell hz hc hzz
      go_enter Try.func34, Try.ntmps34
      go_wp2
      go_returns
      exact ⟨z % m, rfl, Int.emod_nonneg _ (by omega), Int.emod_lt_of_pos _ (by omega), S.out⟩
    · have hpl : (l : Int) ≤ (p : Int) := by omega
      have hnl : decide ((p : Int) < (l : Int)) = false := by simp; omega
      have h1 : p % l < l := Nat.mod_lt _ (by omega)
      have h2 : (p * 7 + 3) % l < l := Nat.mod_lt _ (by omega)
      have hc1 := cell _ h1
      have hc2 := cell _ h2
      obtain ⟨z1, hz1⟩ : ∃ z, z = zs.getD (p % l) 0 := ⟨_, rfl⟩
      obtain ⟨z2, hz2⟩ : ∃ z, z = zs.getD ((p * 7 + 3) % l) 0 := ⟨_, rfl⟩
      have g1 := hz (p % l)
      have g2 := hz ((p * 7 + 3) % l)
      rw [← hz1] at hc1 g1
      rw [← hz2] at hc2 g2
      obtain ⟨g1, g1'⟩ := g1
      obtain ⟨g2, g2'⟩ := g2
      have b1 : 0 ≤ (p : Int) % (l : Int) := Int.emod_nonneg _ (by omega)
      have b1' : (p : Int) % (l : Int) < (l : Int) := Int.emod_lt_of_pos _ hlp
      have b2 : 0 ≤ ((p : Int) * 7 + 3) % (l : Int) := Int.emod_nonneg _ (by omega)
      have b2' : ((p : Int) * 7 + 3) % (l : Int) < (l : Int) := Int.emod_lt_of_pos _ hlp
      have t2 : (((p : Int) * 7 + 3) % (l : Int)).toNat = (p * 7 + 3) % l := by
        rw [show ((p : Int) * 7 + 3) % (l : Int) = (((p * 7 + 3) % l : Nat) : Int) from by push_cast; rfl]
        exact Int.toNat_natCast _
      have q1 : 0 ≤ (p : Int) / (l : Int) := Int.ediv_nonneg (by omega) (by omega)
      have q1' : (p : Int) / (l : Int) ≤ (p : Int) := Int.ediv_le_self _ (by omega)
      have step := rd_step hblk hl hp hB hbytes
      have S := Lib.hid step
      have hplo : p ≤ 1000000000 := by omega
      clear step cell hz hc hz1 hz2
      go_enter Try.func34, Try.ntmps34
      go_wp2
      refine wp_region_quiet_lit (by kernel_rfl) (by kernel_rfl) ?_
      repeat (any_goals (first | go_big_quiet_step (fail) | quiet_step (fail)))
      all_goals (refine wpQuiet_nil ?_; intro _ hw'; obtain ⟨nq, hw''⟩ := hw'; subst hw'')
      obtain ⟨X, hX⟩ : ∃ X, X = z1 * 131 + z2 * 1117 + ↑p * 29 + ↑p / ↑l * 53 := ⟨_, rfl⟩
      have hX0 : 0 ≤ X := by omega
      have hX1 : X ≤ 1000000000000 := by omega
      rw [← hX]
      have hx := i64_xor_nonneg X (X / 64) hX0 (by omega) (by omega) (by omega)
      clear hX
      go_wp2
      go_returns
      exact ⟨_, rfl, Int.emod_nonneg _ (by omega), Int.emod_lt_of_pos _ (by omega), S.out nq⟩

theorem Rd.far {w w' : World} {rb n : Nat} {row : Option Nat} (h : Rd w B rb n) (hg : w.grownBy w' row) (hr : ∀ b, row = some b → w.heap.size ≤ b) : Rd w' B rb n := by
  obtain ⟨a, l, c, p, zs, hblk, hl, hp, hB, hb⟩ := h
  have lt : ∀ b, (w.heap[b]?).isSome = true → some b ≠ row := by
    intro b hb e
    have := hr b e.symm
    rw [Array.getElem?_eq_none this] at hb
    cases hb
  refine ⟨a, l, c, p, zs, ?_, hl, hp, hB, ?_⟩
  · rw [hg.block rb (Array.getElem?_eq_some_iff.1 hblk).1 (lt rb (by rw [hblk]; rfl))]
    exact hblk
  · rcases hb with hb | ⟨b, off, ha, hne, hc, hz⟩
    · exact .inl hb
    · refine .inr ⟨b, off, ha, hne, fun i hi => ?_, hz⟩
      refine hg.cell (hc i hi) fun e => ?_
      have hlt := World.block_lt_of_cell? w _ (hc i hi)
      exact lt b (by rw [Array.getElem?_eq_getElem hlt]; rfl) e
theorem Rd.alloc {w : World} {rb n : Nat} (h : Rd w B rb n) (o : Obj) : Rd (w.alloc o) B rb n := h.far (World.grownBy_alloc w o none) (fun _ e => by cases e)
theorem Rd.setCell {w : World} {rb n : Nat} (h : Rd w B rb n) {p : Addr} (hp : rb < p.block) (u : Value) : Rd (w.setCell p u) B rb n := by
  obtain ⟨a, l, c, q, zs, hblk, hl, hq, hB, hb⟩ := h
  refine ⟨a, l, c, q, zs, (Below.heap_setCell w p u rb (by omega)).trans hblk, hl, hq, hB, ?_⟩
  rcases hb with hb | ⟨b, off, ha, hne, hc, hz⟩
  · exact .inl hb
  · exact .inr ⟨b, off, ha, hne, fun i hi => (World.cell?_of_block (w := w) (a := ⟨b, off + i, none⟩) (Below.heap_setCell w p u b (by omega))).trans (hc i hi), hz⟩
/-- A store into a block from B on that is not the reader's. -/
theorem Rd.store {w : World} {rb n : Nat} (h : Rd w B rb n) {p : Addr} (hp : B ≤ p.block) (hr : p.block ≠ rb) (u : Value) : Rd (w.setCell p u) B rb n := by
  obtain ⟨a, l, c, q, zs, hblk, hl, hq, hB, hb⟩ := h
  refine ⟨a, l, c, q, zs, (Below.heap_setCell w p u rb (by omega)).trans hblk, hl, hq, hB, ?_⟩
  rcases hb with hb | ⟨b, off, ha, hne, hc, hz⟩
  · exact .inl hb
  · exact .inr ⟨b, off, ha, hne, fun i hi => (World.cell?_of_block (w := w) (a := ⟨b, off + i, none⟩) (Below.heap_setCell w p u b (by omega))).trans (hc i hi), hz⟩
theorem Rd.lt {w : World} {rb n : Nat} (h : Rd w B rb n) : rb < w.heap.size := by
  obtain ⟨_, _, _, _, _, hblk, _⟩ := h
  exact (Array.getElem?_eq_some_iff.1 hblk).1
theorem Rd.mono {w : World} {rb n m : Nat} (h : Rd w B rb n) (hm : n ≤ m) : Rd w B rb m := by
  obtain ⟨a, l, c, p, zs, hblk, hl, hp, hB, hb⟩ := h
  exact ⟨a, l, c, p, zs, hblk, hl, by omega, hB, hb⟩
theorem Rd.drewN {w : World} {rb n : Nat} (h : Rd w B rb n) (d : Nat) : Rd (w.drewN d) B rb n := h

/-- Two steps that turn the reader alone (or what is new). -/
theorem grown_trans {a b c : World} {row : Option Nat} (h : a.grownBy b row) (k : b.grownBy c row) : a.grownBy c row :=
  ⟨k.os.trans h.os, k.tape.trans h.tape, k.output.trans h.output, Nat.le_trans h.size k.size, fun i hi hne => (k.block i (Nat.lt_of_lt_of_le hi h.size) hne).trans (h.block i hi hne)⟩
theorem grown_alloc {a b : World} {row : Option Nat} (h : a.grownBy b row) (o : Obj) : a.grownBy (b.alloc o) row :=
  ⟨h.os, h.tape, h.output, Nat.le_trans h.size (by simp), fun i hi hne => (Below.heap_alloc b o i (Nat.lt_of_lt_of_le hi h.size)).trans (h.block i hi hne)⟩
theorem grown_setCell {a b : World} {row : Option Nat} (h : a.grownBy b row) {p : Addr} (hp : a.heap.size ≤ p.block) (u : Value) : a.grownBy (b.setCell p u) row :=
  ⟨h.os, h.tape, h.output, by simpa [World.setCell] using h.size, fun i hi hne => (Below.heap_setCell b p u i (by omega)).trans (h.block i hi hne)⟩
theorem grown_drewN {a b : World} {row : Option Nat} (h : a.grownBy b row) (n : Nat) : a.grownBy (b.drewN n) row := ⟨h.os, h.tape, h.output, h.size, h.block⟩
theorem grown_drew {a b : World} {row : Option Nat} (h : a.grownBy b row) : a.grownBy b.drew row := ⟨h.os, h.tape, h.output, h.size, h.block⟩
theorem grown_refl (a : World) (row : Option Nat) : a.grownBy a row := ⟨rfl, rfl, rfl, Nat.le_refl _, fun _ _ _ => rfl⟩
/-- What was below a block that is new when the reader was, is as it was. -/
theorem below_of_grown {B : Nat} {a b : World} {rb : Nat} (h : a.grownBy b (some rb)) (hB : B ≤ rb) (hs : rb ≤ a.heap.size) : Below B a b :=
  ⟨h.os, h.tape, h.output, h.size, fun k hk => h.block k (by omega) (by intro e; injection e; omega)⟩

/-- A number from lo to hi was drawn by k picks. -/
def Drawn (w : World) (B rb n k : Nat) (lo hi : Int) (e : Ending) (w' : World) : Prop :=
  ∃ v : Int, e = .returned (.int .i64 v) ∧ lo ≤ v ∧ v ≤ hi ∧ Rd w' B rb (n + k) ∧ w.grownBy w' (some rb)

end Go.Proofs.Yteajojhfcllodaa
