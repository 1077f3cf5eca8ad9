/- Acknowledging and losing, as the laws say it. -/
import Derived.Test.YtmkmaeblnnfheabLawKit
import Derived.Test.YtmkmaeblnnfheabDrwE
import Derived.Test.YtmkmaeblnnfheabMg5
namespace Go.Proofs.Ytmkmaeblnnfheab

theorem sendAck_yes {s s1 : Sd} {p : Pt} (h : sendAck s p = (s1, true)) : SV s ∧ Sent s p ∧ ack s p = s1 := by
  unfold sendAck at h
  split at h
  · rename_i hc
    cases h
    exact ⟨(sentOk_iff.1 hc).1, (sentOk_iff.1 hc).2, rfl⟩
  · cases h
theorem sendLoss_yes {s s1 : Sd} {p : Pt} (h : sendLoss s p = (s1, true)) : SV s ∧ Sent s p ∧ loss s p = s1 := by
  unfold sendLoss at h
  split at h
  · rename_i hc
    cases h
    exact ⟨(sentOk_iff.1 hc).1, (sentOk_iff.1 hc).2, rfl⟩
  · cases h
theorem sendAck_of {s : Sd} {p : Pt} (h : SV s) (hp : Sent s p) : sendAck s p = (ack s p, true) := by
  unfold sendAck
  rw [if_pos (sentOk_iff.2 ⟨h, hp⟩)]
theorem sendLoss_of {s : Sd} {p : Pt} (h : SV s) (hp : Sent s p) : sendLoss s p = (loss s p, true) := by
  unfold sendLoss
  rw [if_pos (sentOk_iff.2 ⟨h, hp⟩)]
theorem ackTwice {s s1 : Sd} {p : Pt} (h : sendAck s p = (s1, true)) : sendAck s1 p = (s1, true) ∧ sendLoss s1 p = (s1, true) := by
  obtain ⟨hs, hp, rfl⟩ := sendAck_yes h
  obtain ⟨h1, h2, h3, h4⟩ := ack_twice hs hp
  rw [sendAck_of h2 h1, sendLoss_of h2 h1, h3, h4]
  exact ⟨rfl, rfl⟩
theorem ackOrder {s s1 r1 r2 : Sd} {p q : Pt} {b1 b2 : Bool} (h : sendAck s p = (s1, true)) (h1 : sendAck s1 q = (r1, b1)) (h2 : sendAck s q = (r2, b2)) : b1 = b2 ∧ (b1 = true → sendAck r2 p = (r1, true)) := by
  obtain ⟨hs, hp, rfl⟩ := sendAck_yes h
  have hv := hs.ack hp
  have e : sentOk (ack s p) q = sentOk s q := by
    unfold sentOk
    rw [okS_iff.2 hs, okS_iff.2 hv, sentB_ack]
  unfold sendAck at h1 h2
  rw [e] at h1
  cases hb : sentOk s q with
  | false =>
    rw [hb, if_neg (by decide)] at h1 h2
    cases h1
    cases h2
    exact ⟨rfl, fun e => by cases e⟩
  | true =>
    rw [hb, if_pos rfl] at h1 h2
    cases h1
    cases h2
    have hq := (sentOk_iff.1 hb).2
    refine ⟨rfl, fun _ => ?_⟩
    rw [sendAck_of (hs.ack hq) (hp.of rfl rfl (Int.le_refl _)), ack_order hs hp hq]

end Go.Proofs.Ytmkmaeblnnfheab
