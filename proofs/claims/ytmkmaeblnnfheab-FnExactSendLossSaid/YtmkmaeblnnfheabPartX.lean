/- A part for the exact laws: measured, copied in, compared. -/
import Derived.Test.YtmkmaeblnnfheabSendX
import Derived.Deep.Cut
namespace Go.Proofs.Ytmkmaeblnnfheab
open Go.RowKit
attribute [local irreducible] Go.wpQuiet

set_option maxHeartbeats 1000000 in
theorem szPart_any (o : Int) (d : ByteArray) (f : Bool) (left : Int) (w : World) (hd : d.size ≤ maxLen) (hl : 0 ≤ left ∧ left ≤ 1048576) :
    Calls Try.prog 19 #[.agg #[.int .i64 o, .string d, .bool f], .int .i64 left] w fun e w' => e = .returned (.int .i64 (if left < d.size then -1 else left - d.size)) ∧ Below w.heap.size w w' := by
  have hd' : (d.size : Int) ≤ 9223372036854775807 := by unfold maxLen at hd; omega
  clear hd
  obtain ⟨hl0, hl1⟩ := hl
  have z := Own3.newT (o := o) (d := d) (f := f) w 38
  obtain ⟨⟨z0, z1, z2⟩, zf⟩ := z
  by_cases h : left < d.size
  · rw [if_pos h]
    go_enter Try.func19, Try.ntmps19
    go_wp2_with fail
    go_ret
    exact ⟨rfl, by go_grown⟩
  · rw [if_neg h]
    go_enter Try.func19, Try.ntmps19
    go_wp2_with fail
    go_ret
    exact ⟨rfl, by go_grown⟩

set_option maxHeartbeats 1000000 in
theorem toPart_any (o : Int) (d : ByteArray) (f : Bool) (w : World) :
    Calls Try.prog 22 #[.agg #[.int .i64 o, .string d, .bool f]] w fun e w' => e = .returned (.agg #[.int .i64 o, .string d, .bool f]) ∧ Below w.heap.size w w' := by
  go_enter Try.func22, Try.ntmps22
  go_upto_region 2 with (fail)
  have hz := hid_of (fun x : Obj => ((Own3.newT (o := o) (d := d) (f := f) w 38).alloc (.cells #[.int .i64 0, .string ⟨#[]⟩, .bool false] 29)).alloc x)
  have hr := hid_of (fun x : Obj => (Own3.newT (o := 0) (d := ⟨#[]⟩) (f := false) (w.alloc (.cells #[.int .i64 o, .string d, .bool f] 38)) 29).alloc x)
  have hb := hid_of (fun x : Obj => ba (ba (ba (Below.refl w.heap.size w) (.cells #[.int .i64 o, .string d, .bool f] 38)) (.cells #[.int .i64 0, .string ⟨#[]⟩, .bool false] 29)) x)
  generalize hW : World.alloc (World.alloc w _) _ = W at hz hr hb ⊢
  have hs : W.heap.size = w.heap.size + 1 + 1 := by rw [← hW]; simp
  have hrb : (w.alloc (.cells #[.int .i64 o, .string d, .bool f] 38)).heap.size = w.heap.size + 1 := by simp
  rw [hrb] at hr
  clear hW hrb
  have z0 := fun x => (hz.out x).1.1
  have z1 := fun x => (hz.out x).1.2.1
  have z2 := fun x => (hz.out x).1.2.2
  have r0 := fun x => (hr.out x).1.1
  have r1 := fun x => (hr.out x).1.2.1
  have r2 := fun x => (hr.out x).1.2.2
  have rf := fun x => (hr.out x).2
  rw [← hs]
  clear hs
  go_wp2_with fail
  try simp only [Exit.inBlock, Exit.then]
  refine bodyPost_ret (results_prt rfl rfl ((hr.out _).setAll o d f)) rfl ?_
  refine ⟨rfl, ?_⟩
  repeat refine Below.setCell ?_ (by dsimp only; omega) _
  exact hb.out _

end Go.Proofs.Ytmkmaeblnnfheab
