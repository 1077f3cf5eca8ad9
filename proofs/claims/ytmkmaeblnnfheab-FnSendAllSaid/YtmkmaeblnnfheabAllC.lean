/- For the law that everything is sent and acknowledged: a new stream, and each round of the loop, plain. -/
import Derived.Test.YtmkmaeblnnfheabLawKit
import Derived.Test.YtmkmaeblnnfheabMg5
import Derived.Test.YtmkmaeblnnfheabMg4
namespace Go.Proofs.Ytmkmaeblnnfheab
open Go.RowKit
attribute [local irreducible] Go.wpQuiet

/-- Sets from a block on. -/
structure InHi (w : World) (lo : Nat) (A : Option Addr) (ca : Nat) (LA : List Rg) (B : Option Addr) (cb : Nat) (LB : List Rg) : Prop where
  a : RngIn w lo w.heap.size A LA.length ca LA
  b : RngIn w lo w.heap.size B LB.length cb LB
section
variable {w w' : World} {lo lo' : Nat} {A : Option Addr} {ca : Nat} {LA : List Rg} {B : Option Addr} {cb : Nat} {LB : List Rg}
theorem InHi.of (h : RngIn w lo' w.heap.size A LA.length ca LA) (k : RngIn w lo' w.heap.size B LB.length cb LB) (hl : lo ≤ lo') : InHi w lo A ca LA B cb LB := ⟨h.mono hl (Nat.le_refl _), k.mono hl (Nat.le_refl _)⟩
theorem InHi.grow (h : InHi w lo A ca LA B cb LB) (hb : Below w.heap.size w w') : InHi w' lo A ca LA B cb LB := ⟨(h.a.below hb).mono (Nat.le_refl _) hb.size, (h.b.below hb).mono (Nat.le_refl _) hb.size⟩
theorem InHi.in2 (h : InHi w lo A ca LA B cb LB) : In2 w A ca LA B cb LB := In2.of h.a h.b
theorem InHi.hole6 (h : InHi w lo A ca LA B cb LB) {x : Nat} (hx : x < lo) (v0 v1 v2 v3 v4 v5 : Value) : InHi ((((((w.setCell ⟨x, 0, none⟩ v0).setCell ⟨x, 1, none⟩ v1).setCell ⟨x, 2, none⟩ v2).setCell ⟨x, 3, none⟩ v3).setCell ⟨x, 4, none⟩ v4).setCell ⟨x, 5, none⟩ v5) lo A ca LA B cb LB := by
  have e : (((((((w.setCell ⟨x, 0, none⟩ v0).setCell ⟨x, 1, none⟩ v1).setCell ⟨x, 2, none⟩ v2).setCell ⟨x, 3, none⟩ v3).setCell ⟨x, 4, none⟩ v4).setCell ⟨x, 5, none⟩ v5)).heap.size = w.heap.size := by simp [World.setCell]
  constructor
  · rw [e]
    repeat refine RngIn.setLow ?_ hx _
    exact h.a
  · rw [e]
    repeat refine RngIn.setLow ?_ hx _
    exact h.b
end

set_option maxRecDepth 100000 in
set_option maxHeartbeats 400000 in
theorem sendnew_i (w : World) :
    Calls Try.prog 38 #[.int .i64 30] w fun e w' => (∃ LA LB, e = .returned (.tuple #[.agg #[.string ⟨#[]⟩, .bool false, .int .i64 30, .int .i64 0, .slice none LA.length 0, .slice none LB.length 0], .bool true]) ∧ LA = ([] : List Rg) ∧ LB = ([] : List Rg)) ∧ Below w.heap.size w w' := by
  have hc : decide (0 ≤ (30 : Int) ∧ (30 : Int) ≤ 30) = true := by decide
  go_enter Try.func38, Try.ntmps38
  go_wp2_with (go_at_call 48; (with_reducible refine (within_v hc _).mono ?_); rintro e w9 ⟨rfl, rfl⟩)
  try simp only [Exit.inBlock, Exit.then]
  refine bodyPost_ret (results_sb rfl rfl rfl (Own6.new w)) rfl ?_
  exact ⟨⟨[], [], rfl, rfl, rfl⟩, by go_grown⟩
theorem all_write {d : ByteArray} {LA LB : List Rg} (hA : LA = []) (hB : LB = []) (hd : d.size ≤ 30) :
    sendWrite ⟨⟨#[]⟩, false, 30, 0, LA, LB⟩ d = (⟨d, false, 30, 0, LA, LB⟩, true) ∧ okS ⟨d, false, 30, 0, LA, LB⟩ = true := by
  subst hA
  subst hB
  have h0 : ∀ (x : ByteArray), x.size ≤ 30 → SV ⟨x, false, 30, 0, [], []⟩ := fun x hx =>
    ⟨hx, by show (0 : Int) ≤ 30; decide, by show (30 : Int) ≤ 30; decide, Int.le_refl _, by show (0 : Int) ≤ (x.size : Int); omega, by show min (0 : Int) (x.size : Int) ≤ 30; omega,
      ⟨by show 0 ≤ 16; decide, canon_nil, fun _ h => by cases h⟩, ⟨by show 0 ≤ 16; decide, canon_nil, fun _ h => by cases h⟩, fun i hi => (by cases hi), fun i hi => (by cases hi), fun i hi => (by cases hi)⟩
  refine ⟨?_, okS_iff.2 (h0 d hd)⟩
  unfold sendWrite write
  rw [if_pos (okS_iff.2 (h0 ⟨#[]⟩ (by decide)))]
  have hs : (⟨#[]⟩ : ByteArray).size = 0 := rfl
  rw [if_neg (by rintro (e | e); · cases e
                 · dsimp only at e; rw [hs] at e; omega)]
  have e : (⟨#[]⟩ : ByteArray) ++ d = d := ByteArray.empty_append
  dsimp only
  rw [e]
theorem all_start {d : ByteArray} {LA LB : List Rg} (hA : LA = []) (hB : LB = []) : (⟨d, true, 30, 0, LA, LB⟩ : Sd) = upto d 0 := by
  subst hA
  subst hB
  rfl
theorem all_zero {d : ByteArray} : (⟨#[]⟩ : ByteArray) = d.extract 0 (min 0 (d.size : Int)).toNat := by
  rw [show (min 0 (d.size : Int)).toNat = 0 from by omega]
  simp
  rfl
theorem all_step {d : ByteArray} {n k : Int} {LA LB : List Rg} (hD : d.size ≤ 30) (h0 : 0 ≤ n) (h1 : n ≤ d.size + 1) (hk : 1 ≤ k) (hk' : k ≤ 12) (hu : (⟨d, true, 30, n, LA, LB⟩ : Sd) = upto d n) :
    (LA.length ≤ 16 ∧ LB.length ≤ 16) ∧
    ((doneB ⟨d, true, 30, n, LA, LB⟩ = true ∧ d.extract 0 (min n d.size).toNat = d ∧ ∃ d1 f1 l1 n1 LA1 LB1 o2 d2 f2, sendNext ⟨d, true, 30, n, LA, LB⟩ k = (⟨d1, f1, l1, n1, LA1, LB1⟩, ⟨o2, d2, f2⟩, false) ∧ LA1.length ≤ 16 ∧ LB1.length ≤ 16) ∨
    ∃ m d1 f1 l1 n1 LA1 LB1 o2 d2 f2 LA2 LB2, n < m ∧ m ≤ d.size + 1 ∧ sendNext ⟨d, true, 30, n, LA, LB⟩ k = (⟨d1, f1, l1, n1, LA1, LB1⟩, ⟨o2, d2, f2⟩, true) ∧ sendAck ⟨d1, f1, l1, n1, LA1, LB1⟩ ⟨o2, d2, f2⟩ = (⟨d, true, 30, m, LA2, LB2⟩, true) ∧ (⟨d, true, 30, m, LA2, LB2⟩ : Sd) = upto d m ∧
      d.extract 0 (min n d.size).toNat ++ d2 = d.extract 0 (min m d.size).toNat ∧ d2.size ≤ 30 ∧ LA1.length ≤ 16 ∧ LB1.length ≤ 16) := by
  have hv := upto_valid hD h0 h1
  have hs := sendNext_valid hv hk hk'
  have hl := sendNext_len (upto d n) k
  rw [← hu] at hs hl hv
  refine ⟨⟨hv.a.1, hv.b.1⟩, ?_⟩
  rcases upto_step hD h0 h1 hk with ⟨e, hn⟩ | ⟨m, p, s', g0, g1, hn, hp, hsv, ha, ht⟩
  · left
    rw [← hu] at hn
    rw [hs, hn] at hl
    refine ⟨?_, ?_, d, true, 30, n, LA, LB, pt0.o, pt0.d, pt0.f, by rw [hs, hn], hl.1, hl.2⟩
    · rw [hu, e]; exact upto_done hD
    · rw [e, show (min ((d.size : Int) + 1) (d.size : Int)).toNat = d.size from by omega]
      exact ByteArray.extract_zero_size
  · right
    rw [← hu] at hn
    rw [hs, hn] at hl
    obtain ⟨d1, f1, l1, n1, LA1, LB1⟩ := s'
    obtain ⟨o2, d2, f2⟩ := p
    have hok : sentOk ⟨d1, f1, l1, n1, LA1, LB1⟩ ⟨o2, d2, f2⟩ = true := sentOk_iff.2 ⟨hsv, sentB_iff.1 hp⟩
    refine ⟨m, d1, f1, l1, n1, LA1, LB1, o2, d2, f2, (upto d m).A, (upto d m).L, g0, g1, by rw [hs, hn], ?_, rfl, ht, ?_, hl.1, hl.2⟩
    · unfold sendAck
      rw [if_pos hok, ha]
      rfl
    · exact ((sentB_iff.1 hp).bd hsv).2.1

end Go.Proofs.Ytmkmaeblnnfheab
