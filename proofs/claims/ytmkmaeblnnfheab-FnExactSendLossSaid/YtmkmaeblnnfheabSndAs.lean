/- SendAck and SendLoss by the reference. -/
import Derived.Test.YtmkmaeblnnfheabSentC
import Derived.Test.YtmkmaeblnnfheabDrwP
import Derived.Test.YtmkmaeblnnfheabSndL
namespace Go.Proofs.Ytmkmaeblnnfheab
open Go.RowKit
attribute [local irreducible] Go.wpQuiet

noncomputable def sendAck (s : Sd) (p : Pt) : Sd × Bool := if sentOk s p = true then (ack s p, true) else (sd0, false)
noncomputable def sendLoss (s : Sd) (p : Pt) : Sd × Bool := if sentOk s p = true then (loss s p, true) else (sd0, false)
theorem sendAck_len (s : Sd) (p : Pt) : (sendAck s p).1.A.length ≤ 16 ∧ (sendAck s p).1.L.length ≤ 16 := by
  unfold sendAck
  split
  · rename_i h
    have h1 := (sentOk_iff.1 h).1.ack (sentOk_iff.1 h).2
    exact ⟨h1.a.1, h1.b.1⟩
  · exact ⟨by show 0 ≤ 16; decide, by show 0 ≤ 16; decide⟩
theorem sendLoss_len (s : Sd) (p : Pt) : (sendLoss s p).1.A.length ≤ 16 ∧ (sendLoss s p).1.L.length ≤ 16 := by
  unfold sendLoss
  split
  · rename_i h
    have h1 := (sentOk_iff.1 h).1.loss (sentOk_iff.1 h).2
    exact ⟨h1.a.1, h1.b.1⟩
  · exact ⟨by show 0 ≤ 16; decide, by show 0 ≤ 16; decide⟩

theorem l32Ack_v {d : ByteArray} {f : Bool} {l n : Int} {LA LB : List Rg} {A : Option Addr} {ca : Nat} {B : Option Addr} {cb : Nat} {o : Int} {dp : ByteArray} {fp : Bool} {x : Sd} (hx : ack ⟨d, f, l, n, LA, LB⟩ ⟨o, dp, fp⟩ = x) (hs : SV ⟨d, f, l, n, LA, LB⟩) (hp : Sent ⟨d, f, l, n, LA, LB⟩ ⟨o, dp, fp⟩) (w : World) (hA : RngAt w A LA.length LA) (hB : RngAt w B LB.length LB) (eA : A = none → ca = 0) (eB : B = none → cb = 0) :
    Calls Try.prog 71 #[.agg #[.string d, .bool f, .int .i64 l, .int .i64 n, .slice A LA.length ca, .slice B LB.length cb], .agg #[.int .i64 o, .string dp, .bool fp]] w fun e w' => (∃ v, e = .returned v ∧ GotSd w x v w') ∧ Below w.heap.size w w' := by
  obtain ⟨⟨h1, h2⟩, h3, h4, h5⟩ := hp.bd hs
  obtain ⟨_, _, _, h6, h7⟩ := hs.bd
  dsimp only at h1 h2 h3 h4 h6 h7
  rw [← hx]
  exact l32Ack_w d f l n LA LB A ca B cb o dp fp _ w hA hB eA eB (by omega) (by omega) rfl (by omega) (by omega) (by omega) _ (spec_add hs.a.2.1 h4) (LInv.of hs.a).wide
theorem l32Loss_v {d : ByteArray} {f : Bool} {l n : Int} {LA LB : List Rg} {A : Option Addr} {ca : Nat} {B : Option Addr} {cb : Nat} {o : Int} {dp : ByteArray} {fp : Bool} {x : Sd} (hx : loss ⟨d, f, l, n, LA, LB⟩ ⟨o, dp, fp⟩ = x) (hs : SV ⟨d, f, l, n, LA, LB⟩) (hp : Sent ⟨d, f, l, n, LA, LB⟩ ⟨o, dp, fp⟩) (w : World) (hA : RngAt w A LA.length LA) (hB : RngAt w B LB.length LB) (eA : A = none → ca = 0) (eB : B = none → cb = 0) :
    Calls Try.prog 60 #[.agg #[.string d, .bool f, .int .i64 l, .int .i64 n, .slice A LA.length ca, .slice B LB.length cb], .agg #[.int .i64 o, .string dp, .bool fp]] w fun e w' => (∃ v, e = .returned v ∧ GotSd w x v w') ∧ Below w.heap.size w w' := by
  obtain ⟨⟨h1, h2⟩, h3, h4, h5⟩ := hp.bd hs
  obtain ⟨_, _, _, h6, h7⟩ := hs.bd
  dsimp only at h1 h2 h3 h4 h6 h7
  rw [← hx]
  exact l32Loss_w d f l n LA LB A ca B cb o dp fp _ w hA hB eA eB (by omega) (by omega) rfl (by omega) (by omega) (by omega) (LInv.of hs.b)


set_option linter.unusedVariables false in
set_option maxRecDepth 100000 in
set_option maxHeartbeats 4000000 in
theorem sack_s_bad (d : ByteArray) (f : Bool) (l n : Int) (LA LB : List Rg) (A : Option Addr) (ca : Nat) (B : Option Addr) (cb : Nat) (o : Int) (dp : ByteArray) (fp : Bool) (w : World) (hA : RngAt w A LA.length LA) (hB : RngAt w B LB.length LB) (eA : A = none → ca = 0) (eB : B = none → cb = 0) (hn : LA.length ≤ 2000000) (hn' : LB.length ≤ 2000000) (hdp : dp.size ≤ 2000000) (HV : Hid (sentOk ⟨d, f, l, n, LA, LB⟩ ⟨o, dp, fp⟩ = false)) :
    Calls Try.prog 35 #[.agg #[.string d, .bool f, .int .i64 l, .int .i64 n, .slice A LA.length ca, .slice B LB.length cb], .agg #[.int .i64 o, .string dp, .bool fp]] w (GotSb w (sd0, false)) := by
  have z := ((Own6.new (d := d) (f := f) (l := l) (n := n) (A := A) (na := LA.length) (ca := ca) (B := B) (nb := LB.length) (cb := cb) w).alloc (.cells #[.int .i64 o, .string dp, .bool fp] 29)).alloc (.cells #[.string (⟨#[]⟩ : ByteArray), .bool false, .int .i64 0, .int .i64 0, .slice none 0 0, .slice none 0 0] 25)
  have q := (Own3.new (w.alloc (.cells #[.string d, .bool f, .int .i64 l, .int .i64 n, .slice A LA.length ca, .slice B LB.length cb] 25)) o dp fp).alloc (.cells #[.string (⟨#[]⟩ : ByteArray), .bool false, .int .i64 0, .int .i64 0, .slice none 0 0, .slice none 0 0] 25)
  have r := Own6.new (d := (⟨#[]⟩ : ByteArray)) (f := false) (l := 0) (n := 0) (A := none) (na := 0) (ca := 0) (B := none) (nb := 0) (cb := 0) ((w.alloc (.cells #[.string d, .bool f, .int .i64 l, .int .i64 n, .slice A LA.length ca, .slice B LB.length cb] 25)).alloc (.cells #[.int .i64 o, .string dp, .bool fp] 29))
  rw [show (w.alloc (.cells #[.string d, .bool f, .int .i64 l, .int .i64 n, .slice A LA.length ca, .slice B LB.length cb] 25)).heap.size = w.heap.size + 1 from by simp] at q
  rw [show ((w.alloc (.cells #[.string d, .bool f, .int .i64 l, .int .i64 n, .slice A LA.length ca, .slice B LB.length cb] 25)).alloc (.cells #[.int .i64 o, .string dp, .bool fp] 29)).heap.size = w.heap.size + 1 + 1 from by simp] at r
  have hW0 : Below w.heap.size w _ := (((Below.refl _ w).alloc (Nat.le_refl _) (.cells #[.string d, .bool f, .int .i64 l, .int .i64 n, .slice A LA.length ca, .slice B LB.length cb] 25)).alloc (by simp) (.cells #[.int .i64 o, .string dp, .bool fp] 29)).alloc (by simp; omega) (.cells #[.string (⟨#[]⟩ : ByteArray), .bool false, .int .i64 0, .int .i64 0, .slice none 0 0, .slice none 0 0] 25)
  have hsz : (((w.alloc (.cells #[.string d, .bool f, .int .i64 l, .int .i64 n, .slice A LA.length ca, .slice B LB.length cb] 25)).alloc (.cells #[.int .i64 o, .string dp, .bool fp] 29)).alloc (.cells #[.string (⟨#[]⟩ : ByteArray), .bool false, .int .i64 0, .int .i64 0, .slice none 0 0, .slice none 0 0] 25)).heap.size = w.heap.size + 1 + 1 + 1 := by simp
  go_enter Try.func35, Try.ntmps35
  have HZ := hid_of z
  have HQ := hid_of q
  have HR := hid_of r
  obtain ⟨⟨z0, z1, z2, z3, z4, z5⟩, zf⟩ := HZ.out
  obtain ⟨⟨q0, q1, q2⟩, qf⟩ := HQ.out
  clear z q r
  go_wp2_with (go_at_call 59; (with_reducible refine (psent_s HV.out _ (hA.below hW0) (hB.below hW0) hn hn' hdp).mono ?_); rintro e w1 ⟨rfl, hb1⟩; have HZ1 := hid_of (HZ.out.under hb1 (by omega)); have HQ1 := hid_of (HQ.out.under hb1 (by omega)); have HR1 := hid_of (HR.out.under hb1 (by omega)); have hw1 := hW0.trans (hb1.mono hW0.size); have hs1 : w.heap.size + 1 + 1 + 1 ≤ w1.heap.size := (by have := hb1.size; omega); clear z0 z1 z2 z3 z4 z5 zf q0 q1 q2 qf hb1; obtain ⟨⟨r0, r1, r2, r3, r4, r5⟩, rf⟩ := HR1.out)
  try simp only [Exit.inBlock, Exit.then]
  refine bodyPost_ret (results_sb rfl rfl rfl (HR1.out.setAll ⟨#[]⟩ false 0 0 none 0 0 none 0 0)) rfl ?_
  refine ⟨⟨_, rfl, got_zero rfl⟩, ?_⟩
  repeat refine Below.setCell ?_ (by dsimp only; omega) _
  exact hw1

set_option linter.unusedVariables false in
set_option maxRecDepth 100000 in
set_option maxHeartbeats 4000000 in
theorem sack_s_ok (d : ByteArray) (f : Bool) (l n : Int) (LA LB : List Rg) (A : Option Addr) (ca : Nat) (B : Option Addr) (cb : Nat) (o : Int) (dp : ByteArray) (fp : Bool) (w : World) (hA : RngAt w A LA.length LA) (hB : RngAt w B LB.length LB) (eA : A = none → ca = 0) (eB : B = none → cb = 0) (hn : LA.length ≤ 2000000) (hn' : LB.length ≤ 2000000) (hdp : dp.size ≤ 2000000) (HV : Hid (sentOk ⟨d, f, l, n, LA, LB⟩ ⟨o, dp, fp⟩ = true)) (d1 : ByteArray) (f1 : Bool) (l1 n1 : Int) (LA1 LB1 : List Rg) (HX : Hid (ack ⟨d, f, l, n, LA, LB⟩ ⟨o, dp, fp⟩ = ⟨d1, f1, l1, n1, LA1, LB1⟩)) :
    Calls Try.prog 35 #[.agg #[.string d, .bool f, .int .i64 l, .int .i64 n, .slice A LA.length ca, .slice B LB.length cb], .agg #[.int .i64 o, .string dp, .bool fp]] w (GotSb w (⟨d1, f1, l1, n1, LA1, LB1⟩, true)) := by
  have z := ((Own6.new (d := d) (f := f) (l := l) (n := n) (A := A) (na := LA.length) (ca := ca) (B := B) (nb := LB.length) (cb := cb) w).alloc (.cells #[.int .i64 o, .string dp, .bool fp] 29)).alloc (.cells #[.string (⟨#[]⟩ : ByteArray), .bool false, .int .i64 0, .int .i64 0, .slice none 0 0, .slice none 0 0] 25)
  have q := (Own3.new (w.alloc (.cells #[.string d, .bool f, .int .i64 l, .int .i64 n, .slice A LA.length ca, .slice B LB.length cb] 25)) o dp fp).alloc (.cells #[.string (⟨#[]⟩ : ByteArray), .bool false, .int .i64 0, .int .i64 0, .slice none 0 0, .slice none 0 0] 25)
  have r := Own6.new (d := (⟨#[]⟩ : ByteArray)) (f := false) (l := 0) (n := 0) (A := none) (na := 0) (ca := 0) (B := none) (nb := 0) (cb := 0) ((w.alloc (.cells #[.string d, .bool f, .int .i64 l, .int .i64 n, .slice A LA.length ca, .slice B LB.length cb] 25)).alloc (.cells #[.int .i64 o, .string dp, .bool fp] 29))
  rw [show (w.alloc (.cells #[.string d, .bool f, .int .i64 l, .int .i64 n, .slice A LA.length ca, .slice B LB.length cb] 25)).heap.size = w.heap.size + 1 from by simp] at q
  rw [show ((w.alloc (.cells #[.string d, .bool f, .int .i64 l, .int .i64 n, .slice A LA.length ca, .slice B LB.length cb] 25)).alloc (.cells #[.int .i64 o, .string dp, .bool fp] 29)).heap.size = w.heap.size + 1 + 1 from by simp] at r
  have hW0 : Below w.heap.size w _ := (((Below.refl _ w).alloc (Nat.le_refl _) (.cells #[.string d, .bool f, .int .i64 l, .int .i64 n, .slice A LA.length ca, .slice B LB.length cb] 25)).alloc (by simp) (.cells #[.int .i64 o, .string dp, .bool fp] 29)).alloc (by simp; omega) (.cells #[.string (⟨#[]⟩ : ByteArray), .bool false, .int .i64 0, .int .i64 0, .slice none 0 0, .slice none 0 0] 25)
  have hsz : (((w.alloc (.cells #[.string d, .bool f, .int .i64 l, .int .i64 n, .slice A LA.length ca, .slice B LB.length cb] 25)).alloc (.cells #[.int .i64 o, .string dp, .bool fp] 29)).alloc (.cells #[.string (⟨#[]⟩ : ByteArray), .bool false, .int .i64 0, .int .i64 0, .slice none 0 0, .slice none 0 0] 25)).heap.size = w.heap.size + 1 + 1 + 1 := by simp
  go_enter Try.func35, Try.ntmps35
  have HZ := hid_of z
  have HQ := hid_of q
  have HR := hid_of r
  obtain ⟨⟨z0, z1, z2, z3, z4, z5⟩, zf⟩ := HZ.out
  obtain ⟨⟨q0, q1, q2⟩, qf⟩ := HQ.out
  clear z q r
  go_wp2_with (first
    | (go_at_call 59; (with_reducible refine (psent_s HV.out _ (hA.below hW0) (hB.below hW0) hn hn' hdp).mono ?_); rintro e w1 ⟨rfl, hb1⟩; have HZ1 := hid_of (HZ.out.under hb1 (by omega)); have HQ1 := hid_of (HQ.out.under hb1 (by omega)); have HR1 := hid_of (HR.out.under hb1 (by omega)); have hw1 := hW0.trans (hb1.mono hW0.size); have hs1 : w.heap.size + 1 + 1 + 1 ≤ w1.heap.size := (by have := hb1.size; omega); clear z0 z1 z2 z3 z4 z5 zf q0 q1 q2 qf hb1; obtain ⟨⟨z0, z1, z2, z3, z4, z5⟩, zf⟩ := HZ1.out; obtain ⟨⟨q0, q1, q2⟩, qf⟩ := HQ1.out)
    | (go_at_call 71; (with_reducible refine (l32Ack_v HX.out (sentOk_iff.1 HV.out).1 (sentOk_iff.1 HV.out).2 _ (hA.below hw1) (hB.below hw1) eA eB).mono ?_); rintro e w2 ⟨⟨_, rfl, A1, c1, B1, c2, rfl, hI1, hJ1, hap⟩, hb2⟩; have HR2 := hid_of (HR1.out.under hb2 (by omega)); have hw2 := hw1.trans (hb2.mono hw1.size); have hs2 := hb2.size; clear z0 z1 z2 z3 z4 z5 zf q0 q1 q2 qf; obtain ⟨⟨r0, r1, r2, r3, r4, r5⟩, rf⟩ := HR2.out))
  try simp only [Exit.inBlock, Exit.then]
  refine bodyPost_ret (results_sb rfl rfl rfl (HR2.out.setAll d1 f1 l1 n1 A1 LA1.length c1 B1 LB1.length c2)) rfl ?_
  refine ⟨⟨_, rfl, A1, c1, B1, c2, rfl, ?_, ?_, hap⟩, ?_⟩
  · refine RngIn.mono (B := w1.heap.size) (S := w2.heap.size) ?_ (by omega) (by simp [World.setCell])
    repeat refine RngIn.setLow ?_ (by dsimp only; omega) _
    exact hI1
  · refine RngIn.mono (B := w1.heap.size) (S := w2.heap.size) ?_ (by omega) (by simp [World.setCell])
    repeat refine RngIn.setLow ?_ (by dsimp only; omega) _
    exact hJ1
  · repeat refine Below.setCell ?_ (by dsimp only; omega) _
    exact hw2

theorem sack_s (d : ByteArray) (f : Bool) (l n : Int) (LA LB : List Rg) (A : Option Addr) (ca : Nat) (B : Option Addr) (cb : Nat) (o : Int) (dp : ByteArray) (fp : Bool) (w : World) (hA : RngAt w A LA.length LA) (hB : RngAt w B LB.length LB) (eA : A = none → ca = 0) (eB : B = none → cb = 0) (hn : LA.length ≤ 2000000) (hn' : LB.length ≤ 2000000) (hdp : dp.size ≤ 2000000) :
    Calls Try.prog 35 #[.agg #[.string d, .bool f, .int .i64 l, .int .i64 n, .slice A LA.length ca, .slice B LB.length cb], .agg #[.int .i64 o, .string dp, .bool fp]] w (GotSb w (sendAck ⟨d, f, l, n, LA, LB⟩ ⟨o, dp, fp⟩)) := by
  unfold sendAck
  cases hv : sentOk ⟨d, f, l, n, LA, LB⟩ ⟨o, dp, fp⟩ with
  | false => rw [if_neg (by decide)]; exact sack_s_bad d f l n LA LB A ca B cb o dp fp w hA hB eA eB hn hn' hdp hv
  | true => rw [if_pos rfl]; exact sack_s_ok d f l n LA LB A ca B cb o dp fp w hA hB eA eB hn hn' hdp hv _ _ _ _ _ _ (hid_of rfl)

set_option linter.unusedVariables false in
set_option maxRecDepth 100000 in
set_option maxHeartbeats 4000000 in
theorem sloss_s_bad (d : ByteArray) (f : Bool) (l n : Int) (LA LB : List Rg) (A : Option Addr) (ca : Nat) (B : Option Addr) (cb : Nat) (o : Int) (dp : ByteArray) (fp : Bool) (w : World) (hA : RngAt w A LA.length LA) (hB : RngAt w B LB.length LB) (eA : A = none → ca = 0) (eB : B = none → cb = 0) (hn : LA.length ≤ 2000000) (hn' : LB.length ≤ 2000000) (hdp : dp.size ≤ 2000000) (HV : Hid (sentOk ⟨d, f, l, n, LA, LB⟩ ⟨o, dp, fp⟩ = false)) :
    Calls Try.prog 20 #[.agg #[.string d, .bool f, .int .i64 l, .int .i64 n, .slice A LA.length ca, .slice B LB.length cb], .agg #[.int .i64 o, .string dp, .bool fp]] w (GotSb w (sd0, false)) := by
  have z := ((Own6.new (d := d) (f := f) (l := l) (n := n) (A := A) (na := LA.length) (ca := ca) (B := B) (nb := LB.length) (cb := cb) w).alloc (.cells #[.int .i64 o, .string dp, .bool fp] 29)).alloc (.cells #[.string (⟨#[]⟩ : ByteArray), .bool false, .int .i64 0, .int .i64 0, .slice none 0 0, .slice none 0 0] 25)
  have q := (Own3.new (w.alloc (.cells #[.string d, .bool f, .int .i64 l, .int .i64 n, .slice A LA.length ca, .slice B LB.length cb] 25)) o dp fp).alloc (.cells #[.string (⟨#[]⟩ : ByteArray), .bool false, .int .i64 0, .int .i64 0, .slice none 0 0, .slice none 0 0] 25)
  have r := Own6.new (d := (⟨#[]⟩ : ByteArray)) (f := false) (l := 0) (n := 0) (A := none) (na := 0) (ca := 0) (B := none) (nb := 0) (cb := 0) ((w.alloc (.cells #[.string d, .bool f, .int .i64 l, .int .i64 n, .slice A LA.length ca, .slice B LB.length cb] 25)).alloc (.cells #[.int .i64 o, .string dp, .bool fp] 29))
  rw [show (w.alloc (.cells #[.string d, .bool f, .int .i64 l, .int .i64 n, .slice A LA.length ca, .slice B LB.length cb] 25)).heap.size = w.heap.size + 1 from by simp] at q
  rw [show ((w.alloc (.cells #[.string d, .bool f, .int .i64 l, .int .i64 n, .slice A LA.length ca, .slice B LB.length cb] 25)).alloc (.cells #[.int .i64 o, .string dp, .bool fp] 29)).heap.size = w.heap.size + 1 + 1 from by simp] at r
  have hW0 : Below w.heap.size w _ := (((Below.refl _ w).alloc (Nat.le_refl _) (.cells #[.string d, .bool f, .int .i64 l, .int .i64 n, .slice A LA.length ca, .slice B LB.length cb] 25)).alloc (by simp) (.cells #[.int .i64 o, .string dp, .bool fp] 29)).alloc (by simp; omega) (.cells #[.string (⟨#[]⟩ : ByteArray), .bool false, .int .i64 0, .int .i64 0, .slice none 0 0, .slice none 0 0] 25)
  have hsz : (((w.alloc (.cells #[.string d, .bool f, .int .i64 l, .int .i64 n, .slice A LA.length ca, .slice B LB.length cb] 25)).alloc (.cells #[.int .i64 o, .string dp, .bool fp] 29)).alloc (.cells #[.string (⟨#[]⟩ : ByteArray), .bool false, .int .i64 0, .int .i64 0, .slice none 0 0, .slice none 0 0] 25)).heap.size = w.heap.size + 1 + 1 + 1 := by simp
  go_enter Try.func20, Try.ntmps20
  have HZ := hid_of z
  have HQ := hid_of q
  have HR := hid_of r
  obtain ⟨⟨z0, z1, z2, z3, z4, z5⟩, zf⟩ := HZ.out
  obtain ⟨⟨q0, q1, q2⟩, qf⟩ := HQ.out
  clear z q r
  go_wp2_with (go_at_call 59; (with_reducible refine (psent_s HV.out _ (hA.below hW0) (hB.below hW0) hn hn' hdp).mono ?_); rintro e w1 ⟨rfl, hb1⟩; have HZ1 := hid_of (HZ.out.under hb1 (by omega)); have HQ1 := hid_of (HQ.out.under hb1 (by omega)); have HR1 := hid_of (HR.out.under hb1 (by omega)); have hw1 := hW0.trans (hb1.mono hW0.size); have hs1 : w.heap.size + 1 + 1 + 1 ≤ w1.heap.size := (by have := hb1.size; omega); clear z0 z1 z2 z3 z4 z5 zf q0 q1 q2 qf hb1; obtain ⟨⟨r0, r1, r2, r3, r4, r5⟩, rf⟩ := HR1.out)
  try simp only [Exit.inBlock, Exit.then]
  refine bodyPost_ret (results_sb rfl rfl rfl (HR1.out.setAll ⟨#[]⟩ false 0 0 none 0 0 none 0 0)) rfl ?_
  refine ⟨⟨_, rfl, got_zero rfl⟩, ?_⟩
  repeat refine Below.setCell ?_ (by dsimp only; omega) _
  exact hw1

set_option linter.unusedVariables false in
set_option maxRecDepth 100000 in
set_option maxHeartbeats 4000000 in
theorem sloss_s_ok (d : ByteArray) (f : Bool) (l n : Int) (LA LB : List Rg) (A : Option Addr) (ca : Nat) (B : Option Addr) (cb : Nat) (o : Int) (dp : ByteArray) (fp : Bool) (w : World) (hA : RngAt w A LA.length LA) (hB : RngAt w B LB.length LB) (eA : A = none → ca = 0) (eB : B = none → cb = 0) (hn : LA.length ≤ 2000000) (hn' : LB.length ≤ 2000000) (hdp : dp.size ≤ 2000000) (HV : Hid (sentOk ⟨d, f, l, n, LA, LB⟩ ⟨o, dp, fp⟩ = true)) (d1 : ByteArray) (f1 : Bool) (l1 n1 : Int) (LA1 LB1 : List Rg) (HX : Hid (loss ⟨d, f, l, n, LA, LB⟩ ⟨o, dp, fp⟩ = ⟨d1, f1, l1, n1, LA1, LB1⟩)) :
    Calls Try.prog 20 #[.agg #[.string d, .bool f, .int .i64 l, .int .i64 n, .slice A LA.length ca, .slice B LB.length cb], .agg #[.int .i64 o, .string dp, .bool fp]] w (GotSb w (⟨d1, f1, l1, n1, LA1, LB1⟩, true)) := by
  have z := ((Own6.new (d := d) (f := f) (l := l) (n := n) (A := A) (na := LA.length) (ca := ca) (B := B) (nb := LB.length) (cb := cb) w).alloc (.cells #[.int .i64 o, .string dp, .bool fp] 29)).alloc (.cells #[.string (⟨#[]⟩ : ByteArray), .bool false, .int .i64 0, .int .i64 0, .slice none 0 0, .slice none 0 0] 25)
  have q := (Own3.new (w.alloc (.cells #[.string d, .bool f, .int .i64 l, .int .i64 n, .slice A LA.length ca, .slice B LB.length cb] 25)) o dp fp).alloc (.cells #[.string (⟨#[]⟩ : ByteArray), .bool false, .int .i64 0, .int .i64 0, .slice none 0 0, .slice none 0 0] 25)
  have r := Own6.new (d := (⟨#[]⟩ : ByteArray)) (f := false) (l := 0) (n := 0) (A := none) (na := 0) (ca := 0) (B := none) (nb := 0) (cb := 0) ((w.alloc (.cells #[.string d, .bool f, .int .i64 l, .int .i64 n, .slice A LA.length ca, .slice B LB.length cb] 25)).alloc (.cells #[.int .i64 o, .string dp, .bool fp] 29))
  rw [show (w.alloc (.cells #[.string d, .bool f, .int .i64 l, .int .i64 n, .slice A LA.length ca, .slice B LB.length cb] 25)).heap.size = w.heap.size + 1 from by simp] at q
  rw [show ((w.alloc (.cells #[.string d, .bool f, .int .i64 l, .int .i64 n, .slice A LA.length ca, .slice B LB.length cb] 25)).alloc (.cells #[.int .i64 o, .string dp, .bool fp] 29)).heap.size = w.heap.size + 1 + 1 from by simp] at r
  have hW0 : Below w.heap.size w _ := (((Below.refl _ w).alloc (Nat.le_refl _) (.cells #[.string d, .bool f, .int .i64 l, .int .i64 n, .slice A LA.length ca, .slice B LB.length cb] 25)).alloc (by simp) (.cells #[.int .i64 o, .string dp, .bool fp] 29)).alloc (by simp; omega) (.cells #[.string (⟨#[]⟩ : ByteArray), .bool false, .int .i64 0, .int .i64 0, .slice none 0 0, .slice none 0 0] 25)
  have hsz : (((w.alloc (.cells #[.string d, .bool f, .int .i64 l, .int .i64 n, .slice A LA.length ca, .slice B LB.length cb] 25)).alloc (.cells #[.int .i64 o, .string dp, .bool fp] 29)).alloc (.cells #[.string (⟨#[]⟩ : ByteArray), .bool false, .int .i64 0, .int .i64 0, .slice none 0 0, .slice none 0 0] 25)).heap.size = w.heap.size + 1 + 1 + 1 := by simp
  go_enter Try.func20, Try.ntmps20
  have HZ := hid_of z
  have HQ := hid_of q
  have HR := hid_of r
  obtain ⟨⟨z0, z1, z2, z3, z4, z5⟩, zf⟩ := HZ.out
  obtain ⟨⟨q0, q1, q2⟩, qf⟩ := HQ.out
  clear z q r
  go_wp2_with (first
    | (go_at_call 59; (with_reducible refine (psent_s HV.out _ (hA.below hW0) (hB.below hW0) hn hn' hdp).mono ?_); rintro e w1 ⟨rfl, hb1⟩; have HZ1 := hid_of (HZ.out.under hb1 (by omega)); have HQ1 := hid_of (HQ.out.under hb1 (by omega)); have HR1 := hid_of (HR.out.under hb1 (by omega)); have hw1 := hW0.trans (hb1.mono hW0.size); have hs1 : w.heap.size + 1 + 1 + 1 ≤ w1.heap.size := (by have := hb1.size; omega); clear z0 z1 z2 z3 z4 z5 zf q0 q1 q2 qf hb1; obtain ⟨⟨z0, z1, z2, z3, z4, z5⟩, zf⟩ := HZ1.out; obtain ⟨⟨q0, q1, q2⟩, qf⟩ := HQ1.out)
    | (go_at_call 60; (with_reducible refine (l32Loss_v HX.out (sentOk_iff.1 HV.out).1 (sentOk_iff.1 HV.out).2 _ (hA.below hw1) (hB.below hw1) eA eB).mono ?_); rintro e w2 ⟨⟨_, rfl, A1, c1, B1, c2, rfl, hI1, hJ1, hap⟩, hb2⟩; have HR2 := hid_of (HR1.out.under hb2 (by omega)); have hw2 := hw1.trans (hb2.mono hw1.size); have hs2 := hb2.size; clear z0 z1 z2 z3 z4 z5 zf q0 q1 q2 qf; obtain ⟨⟨r0, r1, r2, r3, r4, r5⟩, rf⟩ := HR2.out))
  try simp only [Exit.inBlock, Exit.then]
  refine bodyPost_ret (results_sb rfl rfl rfl (HR2.out.setAll d1 f1 l1 n1 A1 LA1.length c1 B1 LB1.length c2)) rfl ?_
  refine ⟨⟨_, rfl, A1, c1, B1, c2, rfl, ?_, ?_, hap⟩, ?_⟩
  · refine RngIn.mono (B := w1.heap.size) (S := w2.heap.size) ?_ (by omega) (by simp [World.setCell])
    repeat refine RngIn.setLow ?_ (by dsimp only; omega) _
    exact hI1
  · refine RngIn.mono (B := w1.heap.size) (S := w2.heap.size) ?_ (by omega) (by simp [World.setCell])
    repeat refine RngIn.setLow ?_ (by dsimp only; omega) _
    exact hJ1
  · repeat refine Below.setCell ?_ (by dsimp only; omega) _
    exact hw2

theorem sloss_s (d : ByteArray) (f : Bool) (l n : Int) (LA LB : List Rg) (A : Option Addr) (ca : Nat) (B : Option Addr) (cb : Nat) (o : Int) (dp : ByteArray) (fp : Bool) (w : World) (hA : RngAt w A LA.length LA) (hB : RngAt w B LB.length LB) (eA : A = none → ca = 0) (eB : B = none → cb = 0) (hn : LA.length ≤ 2000000) (hn' : LB.length ≤ 2000000) (hdp : dp.size ≤ 2000000) :
    Calls Try.prog 20 #[.agg #[.string d, .bool f, .int .i64 l, .int .i64 n, .slice A LA.length ca, .slice B LB.length cb], .agg #[.int .i64 o, .string dp, .bool fp]] w (GotSb w (sendLoss ⟨d, f, l, n, LA, LB⟩ ⟨o, dp, fp⟩)) := by
  unfold sendLoss
  cases hv : sentOk ⟨d, f, l, n, LA, LB⟩ ⟨o, dp, fp⟩ with
  | false => rw [if_neg (by decide)]; exact sloss_s_bad d f l n LA LB A ca B cb o dp fp w hA hB eA eB hn hn' hdp hv
  | true => rw [if_pos rfl]; exact sloss_s_ok d f l n LA LB A ca B cb o dp fp w hA hB eA eB hn hn' hdp hv _ _ _ _ _ _ (hid_of rfl)

end Go.Proofs.Ytmkmaeblnnfheab
