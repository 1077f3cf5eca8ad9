/- When a part was sent, as tests on its fields; bytes as lists. No program in sight. -/
import Derived.Test.YtmkmaeblnnfheabSendLaws2
namespace Go.Proofs.Ytmkmaeblnnfheab

theorem bytes_loop (b : ByteArray) : ∀ (m i : Nat) (r : List UInt8), b.size - i = m → ByteArray.toList.loop b i r = r.reverse ++ b.data.toList.drop i := by
  intro m
  induction m with
  | zero =>
    intro i r h
    unfold ByteArray.toList.loop
    have hs : b.data.toList.length = b.size := by simp
    rw [if_neg (by omega), List.drop_eq_nil_of_le (by omega)]
    simp
  | succ m ih =>
    intro i r h
    unfold ByteArray.toList.loop
    have hs : b.data.toList.length = b.size := by simp
    rw [if_pos (by omega), ih (i + 1) _ (by omega), List.drop_eq_getElem_cons (i := i) (by omega)]
    have : b.get! i = b.data.toList[i]'(by omega) := by
      have hlt : i < b.data.size := by have : b.data.size = b.size := rfl; omega
      have e : b.get! i = b.data[i]! := by cases b; rfl
      rw [e, getElem!_pos b.data i hlt]
      simp
    rw [this]
    simp
theorem bytes_toList (b : ByteArray) : b.toList = b.data.toList := by
  unfold ByteArray.toList
  rw [bytes_loop b _ 0 [] rfl]
  simp
theorem bytes_beq {a b : ByteArray} : (a.toList == b.toList) = true ↔ a = b := by
  rw [beq_iff_eq, bytes_toList, bytes_toList]
  exact ⟨fun h => by cases a; cases b; simp at h; rw [h], fun h => by rw [h]⟩
/-- Does s begin with p? -/
def pre (s p : ByteArray) : Bool := decide (p.size ≤ s.size) && ((s.extract 0 p.size).toList == p.toList)
theorem pre_iff {d p : ByteArray} {o : Int} (h0 : 0 ≤ o) (h1 : o ≤ d.size) : pre (d.extract o.toNat d.size) p = true ↔ o + p.size ≤ d.size ∧ d.extract o.toNat (o.toNat + p.size) = p := by
  unfold pre
  rw [Bool.and_eq_true, decide_eq_true_iff, bytes_beq, ByteArray.size_extract]
  constructor
  · rintro ⟨h2, h3⟩
    refine ⟨by omega, ?_⟩
    rw [ByteArray.extract_extract] at h3
    simpa [Nat.min_eq_left (show o.toNat + p.size ≤ d.size by omega)] using h3
  · rintro ⟨h2, h3⟩
    refine ⟨by omega, ?_⟩
    rw [ByteArray.extract_extract]
    simpa [Nat.min_eq_left (show o.toNat + p.size ≤ d.size by omega)] using h3

end Go.Proofs.Ytmkmaeblnnfheab
