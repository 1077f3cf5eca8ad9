/- The sets of what SendNext hands back are short. -/
import Derived.Test.YtmkmaeblnnfheaaSndP
namespace Go.Proofs.Ytmkmaeblnnfheaa

theorem sendNext_len (s : Sd) (k : Int) : (sendNext s k).1.A.length ≤ 16 ∧ (sendNext s k).1.L.length ≤ 16 := by
  unfold sendNext
  split
  · rename_i h
    have h1 := (next_good (okS_iff.1 h.1) (of_decide_eq_true h.2).1).1
    exact ⟨h1.a.1, h1.b.1⟩
  · exact ⟨by show 0 ≤ 16; decide, by show 0 ≤ 16; decide⟩

end Go.Proofs.Ytmkmaeblnnfheaa
