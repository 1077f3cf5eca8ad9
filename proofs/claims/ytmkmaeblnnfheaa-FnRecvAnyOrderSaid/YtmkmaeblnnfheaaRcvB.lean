/- A copy of what was received; the byte that waits at a position; no conflict with bytes of one text. -/
import Derived.Test.YtmkmaeblnnfheaaRcvA
namespace Go.Proofs.Ytmkmaeblnnfheaa
open Go.RowKit
attribute [local irreducible] Go.wpQuiet

/-- The byte at a position. -/
def bAt (s : ByteArray) (i : Int) : Int := if h : 0 ≤ i ∧ i < s.size then ((s[i.toNat]'(by omega)).toNat : Int) else 0
theorem bAt_ext {D : ByteArray} {a b : Nat} {i : Nat} (h : i < (D.extract a b).size) : (((D.extract a b)[i]'h).toNat : Int) = bAt D ((a + i : Nat) : Int) := by
  have hs : i < min b D.size - a := by rw [ByteArray.size_extract] at h; exact h
  unfold bAt
  rw [dif_pos (by omega), ByteArray.getElem_extract]
  congr 2

set_option maxHeartbeats 1000000 in
theorem clone_pc (A : Option Addr) (c : Nat) (L : List Pc) (w : World) (h : PcAt w A L.length L) (hnone : A = none → c = 0) (hn : L.length ≤ 2000000) :
    Calls Try.prog 100 #[.slice A L.length c] w (GotPc w L) := by
  obtain ⟨i0, hi0, hz0, hz1, hz2⟩ := info_parts info_pc
  have q25 : ∀ (w : World) (a : Option Addr) (n c n' c' : Nat), (binOp .eql 56 (.slice a n c) (.slice none n' c')).run Try.prog w = .ok (.bool a.isNone) w := fun w a n c n' c' => Lib.run_eql_slice_nil w _ _ a n c n' c' Try.underlying56
  cases A with
  | none =>
    have hL : L = [] := by
      cases L with
      | nil => rfl
      | cons r T => obtain ⟨_, _, e, _⟩ := h.2 (by simp); cases e
    subst hL
    go_enter Try.func100, Try.ntmps100
    go_wp2
    go_ret
    exact ⟨_, _, rfl, PcIn.empty _ _ _ _, Below.refl _ _⟩
  | some x =>
    generalize hN : L.length = N at *
    have HNN := hid_of hN
    clear hN
    go_enter Try.func100, Try.ntmps100
    go_wp2_with (at_builtin; refine wpList_copy_pc _ rfl _ _ rfl (base := w.heap.size) (g := w.heap.size) (L := L) rfl (World.ownsRow_lit w #[] 0 (Nat.le_refl _) (Nat.zero_le _) rfl) (by simp) rfl (h.alloc _) (by intro e; cases e) hn ?_; intro A' c' w' hI hg)
    go_ret
    refine ⟨A', c', by rw [HNN.out]; rfl, by rw [HNN.out]; exact hI, ?_⟩
    exact ((Below.refl _ w).alloc (Nat.le_refl _) _).grown hg (by simp) (by intro k hk; simp at hk; omega)

theorem mem_none_in {L : List Rg} {q : Int} (h : ∀ j, j < L.length → inB (rth L j) q = false) : memB L q = false := by
  cases hm : memB L q with
  | false => rfl
  | true =>
    obtain ⟨r, hr, e1, e2⟩ := memB_iff.1 hm
    obtain ⟨j, hj, rfl⟩ := mem_rth hr
    have := h j hj
    rw [inB_iff.2 ⟨e1, e2⟩] at this
    cases this

set_option maxRecDepth 100000 in
set_option maxHeartbeats 2000000 in
/-- The byte that waits at a position. -/
theorem wait_v {D : ByteArray} {L : List Rg} {R F l q u : Int} {A : Option Addr} {c : Nat} {m : Bool} (hm : memB L q = m) (hu : m = true → bAt D q = u) (hz : m = false → u = 0) (hx : Rx D L) (hq : -1000000 ≤ q ∧ q ≤ 1000000) (w : World) (h : PcAt w A L.length (pcs D L)) :
    Calls Try.prog 101 #[.agg #[.int .i64 R, .slice A L.length c, .int .i64 F, .int .i64 l], .int .i64 q] w fun e w' => e = .returned (.tuple #[.int .u8 u, .bool m]) ∧ Below w.heap.size w w' := by
  have hAW := h.alloc (.cells #[.int .i64 R, .slice A L.length c, .int .i64 F, .int .i64 l] 58)
  have HM := hid_of hm
  have HU := hid_of hu
  have HZ := hid_of hz
  have hlen := hx.len
  have hfew := hx.few
  have HX := hid_of hx
  have hb0 : Below w.heap.size w (w.alloc (.cells #[.int .i64 R, .slice A L.length c, .int .i64 F, .int .i64 l] 58)) := (Below.refl _ w).alloc (Nat.le_refl _) _
  clear hm hu hz hx h
  go_enter Try.func101, Try.ntmps101
  go_wp2_with fail
  generalize hW : World.alloc w _ = W0 at hAW hb0 ⊢
  clear hW
  go_loopw [11] (fun i wr => ∃ k : Nat, i = .int .i64 (k : Nat) ∧ k ≤ L.length ∧ Hid (∀ j, j < k → inB (rth L j) q = false) ∧ Below W0.heap.size W0 wr) (fun i _ => L.length - (intOf i).toNat)
  case atStart => exact ⟨0, rfl, Nat.zero_le _, hid_of (fun j hj => absurd hj (Nat.not_lt_zero _)), Below.refl _ _⟩
  case round =>
    obtain ⟨k, rfl, hk, HF, hb⟩ := hrel
    by_cases hlt : k < L.length
    · obtain ⟨g, off, rfl, hgl, hc⟩ := (hAW.below hb).2 (by omega)
      obtain ⟨c0, c1⟩ := hc k hlt
      obtain ⟨h1, h2, h3⟩ := HX.out.at_ hlt
      have hsz := pce_size h1 h2 h3
      have hin : inB (rth L k) q = decide ((rth L k).lo ≤ q ∧ q ≤ (rth L k).hi) := rfl
      rw [pcs_th hlt] at c0 c1
      have hbt : ∀ (i : Nat) (h : i < (pce D (rth L k)).d.size), (((pce D (rth L k)).d[i]'h).toNat : Int) = bAt D ((rth L k).lo + i) := fun i h => by
        have := bAt_ext (D := D) (a := (rth L k).lo.toNat) (b := ((rth L k).hi + 1).toNat) (i := i) h
        rw [show (((rth L k).lo.toNat + i : Nat) : Int) = (rth L k).lo + i from by omega] at this
        exact this
      have hmi : inB (rth L k) q = true → memB L q = true := fun e => memB_iff.2 ⟨_, rth_mem hlt, inB_iff.1 e⟩
      have hnx : inB (rth L k) q = false → ∀ j, j < k + 1 → inB (rth L j) q = false := fun e j hj => by
        rcases (show j < k ∨ j = k from by omega) with e' | e'
        · exact HF.out j e'
        · rw [e']; exact e
      obtain ⟨⟨o, d⟩, hp⟩ : ∃ p, pce D (rth L k) = p := ⟨_, rfl⟩
      have ho : (rth L k).lo = o := congrArg Pc.o hp
      obtain ⟨t, ht⟩ : ∃ t, inB (rth L k) q = t := ⟨_, rfl⟩
      obtain ⟨hh, hhh⟩ : ∃ x, (rth L k).hi = x := ⟨_, rfl⟩
      rw [hp] at c0 c1 hsz hbt
      rw [ht] at hin hmi hnx
      rw [ho] at hsz h1 h2 hin hbt
      rw [hhh] at hsz h2 h3 hin
      dsimp only at c0 c1 hsz hbt
      have HC := hid_of hin.symm
      have HBT := hid_of hbt
      have HMI := hid_of hmi
      have HNX := hid_of hnx
      have he : o + d.size = hh + 1 := by omega
      have HE := hid_of he
      have hw1 : IntKind.i64.wrap (hh + 1 - 1) = hh := by rw [show hh + 1 - 1 = hh from by omega]; exact IntWalk.i64_in _ (by omega)
      have hw2 : IntKind.i64.wrap hh = hh := IntWalk.i64_in _ (by omega)
      clear hc hp ho ht hhh hin hbt hmi hnx he
      rename World => wr
      go_wp2_with fail
      generalize hW : World.alloc wr _ = W2
      have hX : Own2 W2 wr.heap.size o d := by rw [← hW]; exact Own2.newT _ _
      have hb2 : Below W0.heap.size W0 W2 := by rw [← hW]; exact hb.alloc hb.size _
      have hs2 : wr.heap.size < W2.heap.size := by rw [← hW]; simp
      clear hW c0 c1
      obtain ⟨⟨x0, x1⟩, xf⟩ := hX
      have u0 := fun y => Up.cell x0 y
      have u1 := fun y => Up.cell x1 y
      refine wp_region_up (by kernel_rfl) (by kernel_rfl) ?_
      repeat (quiet_step (first | (go_at_call 99; with_reducible exact up_of fun w' hb' => pend_v HE.out w' (by omega) (by omega)) | (go_at_call 55; with_reducible exact up_same (within_v HC.out _))))
      refine wpQuiet_nil ?_
      intro w3 hb3
      have y0 := (hb3.cell (p := ⟨wr.heap.size, 0, none⟩) hs2).trans x0
      have y1 := (hb3.cell (p := ⟨wr.heap.size, 1, none⟩) hs2).trans x1
      have hb4 := hb2.trans (hb3.mono hb2.size)
      clear u0 u1 x0 x1 xf hb3
      cases t with
      | true =>
        have hc := of_decide_eq_true HC.out
        have hmt : m = true := by rw [← HM.out]; exact HMI.out rfl
        subst hmt
        obtain ⟨i, hi⟩ : ∃ i : Nat, q - o = (i : Int) := ⟨(q - o).toNat, by omega⟩
        have hwi : IntKind.i64.wrap (q - o) = (i : Int) := by rw [hi]; exact IntWalk.i64_in _ (by omega)
        have hi0 : (0 : Int) ≤ (i : Int) := by omega
        have hi1 : (i : Int) < (d.size : Int) := by omega
        have hi2 : i < d.size := by omega
        have hv : ((d[i]'hi2).toNat : Int) = u := by rw [HBT.out i hi2, show o + (i : Int) = q from by omega]; exact HU.out rfl
        have HV := hid_of hv
        clear hi hc hv
        go_wp2_with fail
        go_returns
        exact ⟨by rw [← HV.out]; rfl, hb0.trans (hb4.mono hb0.size)⟩
      | false =>
        go_wp2_with fail
        go_roundw
        case rel => exact ⟨k + 1, by go_num, by omega, hid_of (HNX.out rfl), hb4⟩
        case measure => simp [intOf]; omega
    · have hkn : k = L.length := by omega
      have hmf : m = false := by rw [← HM.out]; exact mem_none_in (by rw [← hkn]; exact HF.out)
      subst hmf
      have hu0 := HZ.out rfl
      subst hu0
      clear hkn
      go_wp2_with fail
      go_returns
      exact ⟨rfl, hb0.trans (hb.mono hb0.size)⟩

end Go.Proofs.Ytmkmaeblnnfheaa
