/- Plain facts for the laws on paths: the cases of each law, with what each operation gives. No program in sight. -/
import Derived.Test.YteajojhfcllodaaPathPlain
namespace Go.Proofs.Yteajojhfcllodaa
open Go.RowKit

theorem hide {p : Prop} (h : p) : Hid p := h

section
variable {s t r x d : Int}
theorem okB_mk (h : Ok s t r x d) : okB s t r x d = true := okB_true h

/-- A valid path, by its state. -/
theorem ok_cases (h : okB s t r x d = true) :
    ((0 ≤ t ∧ t ≤ 9999) ∧ (0 ≤ r ∧ r ≤ 9999) ∧ (0 ≤ x ∧ x ≤ 9999)) ∧
    ((s = 0 ∧ t = 0 ∧ x = 0 ∧ d = 0) ∨ (s = 1 ∧ x ≤ 3 * r ∧ 1 ≤ d ∧ d ≤ 1998) ∨ (s = 2 ∧ d = 0) ∨ (s = 3 ∧ x ≤ 3 * r ∧ d = 0) ∨ (s = 4 ∧ d = 0)) := by
  have hk := ok_of h
  unfold Ok at hk
  omega

theorem tick_bad {n : Int} (h : ¬ (okB s t r x d = true ∧ (0 ≤ n ∧ n ≤ 999))) : tick ⟨s, t, r, x, d⟩ n = ⟨0, 0, 0, 0, 0⟩ := by exact if_neg h
theorem tick_fails {n : Int} (h : okB s t r x d = true) (h0 : 0 ≤ n) (h1 : n ≤ 999) (h2 : s = 1) (h3 : d ≤ n) : tick ⟨s, t, r, x, d⟩ n = ⟨3, t, r, x, 0⟩ := by
  unfold tick
  rw [if_pos (show okP ⟨s, t, r, x, d⟩ = true ∧ (0 ≤ n ∧ n ≤ 999) from ⟨h, h0, h1⟩), if_pos ⟨h2, h3⟩]
theorem tick_same {n : Int} (h : okB s t r x d = true) (h0 : 0 ≤ n) (h1 : n ≤ 999) (h2 : ¬ (s = 1 ∧ d ≤ n)) : tick ⟨s, t, r, x, d⟩ n = ⟨s, t, r, x, d⟩ := by
  unfold tick
  rw [if_pos (show okP ⟨s, t, r, x, d⟩ = true ∧ (0 ≤ n ∧ n ≤ 999) from ⟨h, h0, h1⟩), if_neg h2]
theorem probe_bad {k n m : Int} (h : ¬ (okB s t r x d = true ∧ (0 ≤ k ∧ k ≤ 9999) ∧ (0 ≤ n ∧ n ≤ 999) ∧ (1 ≤ m ∧ m ≤ 999))) : probe ⟨s, t, r, x, d⟩ k n m = (⟨0, 0, 0, 0, 0⟩, false) := by
  exact if_neg h
theorem probe_no {k n m : Int} (h : okB s t r x d = true) (h1 : 0 ≤ k ∧ k ≤ 9999) (h2 : 0 ≤ n ∧ n ≤ 999) (h3 : 1 ≤ m ∧ m ≤ 999) (h4 : s ≠ 0) : probe ⟨s, t, r, x, d⟩ k n m = (⟨s, t, r, x, d⟩, false) := by
  unfold probe
  rw [if_pos (show okP ⟨s, t, r, x, d⟩ = true ∧ (0 ≤ k ∧ k ≤ 9999) ∧ (0 ≤ n ∧ n ≤ 999) ∧ (1 ≤ m ∧ m ≤ 999) from ⟨h, h1, h2, h3⟩), if_neg h4]
theorem probe_yes {k n m : Int} (h : okB s t r x d = true) (h1 : 0 ≤ k ∧ k ≤ 9999) (h2 : 0 ≤ n ∧ n ≤ 999) (h3 : 1 ≤ m ∧ m ≤ 999) (h4 : s = 0) : probe ⟨s, t, r, x, d⟩ k n m = (⟨1, k, r, 0, n + m⟩, true) := by
  unfold probe
  rw [if_pos (show okP ⟨s, t, r, x, d⟩ = true ∧ (0 ≤ k ∧ k ≤ 9999) ∧ (0 ≤ n ∧ n ≤ 999) ∧ (1 ≤ m ∧ m ≤ 999) from ⟨h, h1, h2, h3⟩), if_pos h4]
theorem answer_bad {k : Int} (h : ¬ (okB s t r x d = true ∧ (0 ≤ k ∧ k ≤ 9999))) : answer ⟨s, t, r, x, d⟩ k = (⟨0, 0, 0, 0, 0⟩, false) := by
  exact if_neg h
theorem answer_no {k : Int} (h : okB s t r x d = true) (h1 : 0 ≤ k ∧ k ≤ 9999) (h4 : ¬ (s = 1 ∧ t = k)) : answer ⟨s, t, r, x, d⟩ k = (⟨s, t, r, x, d⟩, false) := by
  unfold answer
  rw [if_pos (show okP ⟨s, t, r, x, d⟩ = true ∧ (0 ≤ k ∧ k ≤ 9999) from ⟨h, h1⟩), if_neg h4]
theorem answer_yes {k : Int} (h : okB s t r x d = true) (h1 : 0 ≤ k ∧ k ≤ 9999) (h4 : s = 1) (h5 : t = k) : answer ⟨s, t, r, x, d⟩ k = (⟨2, t, r, x, 0⟩, true) := by
  unfold answer
  rw [if_pos (show okP ⟨s, t, r, x, d⟩ = true ∧ (0 ≤ k ∧ k ≤ 9999) from ⟨h, h1⟩), if_pos ⟨h4, h5⟩]
theorem receive_bad {k : Int} (h : ¬ (okB s t r x d = true ∧ (1 ≤ k ∧ k ≤ 99))) : receive ⟨s, t, r, x, d⟩ k = (⟨0, 0, 0, 0, 0⟩, false) := by
  exact if_neg h
theorem receive_no {k : Int} (h : okB s t r x d = true) (h1 : 1 ≤ k ∧ k ≤ 99) (h4 : s = 4 ∨ 9999 < r + k) : receive ⟨s, t, r, x, d⟩ k = (⟨s, t, r, x, d⟩, false) := by
  unfold receive
  rw [if_pos (show okP ⟨s, t, r, x, d⟩ = true ∧ (1 ≤ k ∧ k ≤ 99) from ⟨h, h1⟩), if_pos h4]
theorem receive_yes {k : Int} (h : okB s t r x d = true) (h1 : 1 ≤ k ∧ k ≤ 99) (h4 : ¬ (s = 4 ∨ 9999 < r + k)) : receive ⟨s, t, r, x, d⟩ k = (⟨s, t, r + k, x, d⟩, true) := by
  unfold receive
  rw [if_pos (show okP ⟨s, t, r, x, d⟩ = true ∧ (1 ≤ k ∧ k ≤ 99) from ⟨h, h1⟩), if_neg h4]
theorem send_bad {k : Int} (h : ¬ (okB s t r x d = true ∧ (1 ≤ k ∧ k ≤ 99))) : send ⟨s, t, r, x, d⟩ k = (⟨0, 0, 0, 0, 0⟩, false) := by
  exact if_neg h
theorem send_no {k : Int} (h : okB s t r x d = true) (h1 : 1 ≤ k ∧ k ≤ 99) (h4 : ¬ ((s = 1 ∨ s = 2) ∧ k ≤ allow r x (s == 2))) : send ⟨s, t, r, x, d⟩ k = (⟨s, t, r, x, d⟩, false) := by
  unfold send
  rw [if_pos (show okP ⟨s, t, r, x, d⟩ = true ∧ (1 ≤ k ∧ k ≤ 99) from ⟨h, h1⟩), if_neg h4]
theorem send_yes {k : Int} (h : okB s t r x d = true) (h1 : 1 ≤ k ∧ k ≤ 99) (h4 : (s = 1 ∨ s = 2) ∧ k ≤ allow r x (s == 2)) : send ⟨s, t, r, x, d⟩ k = (⟨s, t, r, x + k, d⟩, true) := by
  unfold send
  rw [if_pos (show okP ⟨s, t, r, x, d⟩ = true ∧ (1 ≤ k ∧ k ≤ 99) from ⟨h, h1⟩), if_pos h4]
theorem close_bad (h : okB s t r x d = false) : close ⟨s, t, r, x, d⟩ = ⟨0, 0, 0, 0, 0⟩ := by
  unfold close; rw [if_neg (show ¬ okP ⟨s, t, r, x, d⟩ = true from by show ¬ okB s t r x d = true; rw [h]; decide)]; rfl
theorem close_ok (h : okB s t r x d = true) : close ⟨s, t, r, x, d⟩ = ⟨4, t, r, x, 0⟩ := by
  unfold close; rw [if_pos (show okP ⟨s, t, r, x, d⟩ = true from h)]

theorem ok3 (h : okB 1 t r x d = true) : okB 3 t r x 0 = true := by
  have hk := ok_of h
  unfold Ok at hk
  exact okB_true (by unfold Ok; omega)
theorem ok4 (h : okB s t r x d = true) : okB 4 t r x 0 = true := by
  have hk := ok_of h
  unfold Ok at hk
  exact okB_true (by unfold Ok; omega)

theorem valid_cases (s t r x d : Int) :
    (Hid (okB s t r x d = false)) ∨ (Hid (okB s t r x d = true) ∧ s = 2) ∨ (Hid (okB s t r x d = true) ∧ s = 4) ∨ (Hid (okB s t r x d = true) ∧ s ≠ 2 ∧ s ≠ 4 ∧ x ≤ 3 * r ∧ 0 ≤ r ∧ r ≤ 9999) := by
  cases h : okB s t r x d with
  | false => exact .inl rfl
  | true =>
    have hk := ok_cases h
    rcases hk with ⟨hb, hk | hk | hk | hk | hk⟩
    · exact .inr (.inr (.inr ⟨rfl, by omega, by omega, by omega, by omega, by omega⟩))
    · exact .inr (.inr (.inr ⟨rfl, by omega, by omega, by omega, by omega, by omega⟩))
    · exact .inr (.inl ⟨rfl, by omega⟩)
    · exact .inr (.inr (.inr ⟨rfl, by omega, by omega, by omega, by omega, by omega⟩))
    · exact .inr (.inr (.inl ⟨rfl, by omega⟩))

theorem tick_cases (s t r x d n : Int) :
    (Hid (okB s t r x d = false) ∧ Hid (tick ⟨s, t, r, x, d⟩ n = ⟨0, 0, 0, 0, 0⟩)) ∨
    (n < 0 ∧ Hid (okB s t r x d = true) ∧ Hid (tick ⟨s, t, r, x, d⟩ n = ⟨0, 0, 0, 0, 0⟩)) ∨
    (999 < n ∧ Hid (okB s t r x d = true) ∧ Hid (tick ⟨s, t, r, x, d⟩ n = ⟨0, 0, 0, 0, 0⟩)) ∨
    (s = 1 ∧ 0 ≤ n ∧ n ≤ 999 ∧ d ≤ n ∧ Hid (okB 1 t r x d = true) ∧ Hid (tick ⟨1, t, r, x, d⟩ n = ⟨3, t, r, x, 0⟩)) ∨
    (s = 1 ∧ 0 ≤ n ∧ n ≤ 999 ∧ n < d ∧ Hid (okB 1 t r x d = true) ∧ Hid (tick ⟨1, t, r, x, d⟩ n = ⟨1, t, r, x, d⟩)) ∨
    (s = 0 ∧ 0 ≤ n ∧ n ≤ 999 ∧ Hid (okB 0 t r x d = true) ∧ Hid (tick ⟨0, t, r, x, d⟩ n = ⟨0, t, r, x, d⟩)) ∨
    (s = 2 ∧ 0 ≤ n ∧ n ≤ 999 ∧ Hid (okB 2 t r x d = true) ∧ Hid (tick ⟨2, t, r, x, d⟩ n = ⟨2, t, r, x, d⟩)) ∨
    (s = 3 ∧ 0 ≤ n ∧ n ≤ 999 ∧ Hid (okB 3 t r x d = true) ∧ Hid (tick ⟨3, t, r, x, d⟩ n = ⟨3, t, r, x, d⟩)) ∨
    (s = 4 ∧ 0 ≤ n ∧ n ≤ 999 ∧ Hid (okB 4 t r x d = true) ∧ Hid (tick ⟨4, t, r, x, d⟩ n = ⟨4, t, r, x, d⟩)) := by
  cases h : okB s t r x d with
  | false => exact .inl ⟨rfl, tick_bad (by rw [h]; simp)⟩
  | true =>
    rcases (show n < 0 ∨ 999 < n ∨ (0 ≤ n ∧ n ≤ 999) from by omega) with hn | hn | ⟨h0, h1⟩
    · exact .inr (.inl ⟨hn, rfl, tick_bad (by omega)⟩)
    · exact .inr (.inr (.inl ⟨hn, rfl, tick_bad (by omega)⟩))
    · rcases (ok_cases h).2 with ⟨rfl, _⟩ | ⟨rfl, _⟩ | ⟨rfl, _⟩ | ⟨rfl, _⟩ | ⟨rfl, _⟩
      · exact .inr (.inr (.inr (.inr (.inr (.inl ⟨rfl, h0, h1, h, tick_same h h0 h1 (by omega)⟩)))))
      · by_cases hd : d ≤ n
        · exact .inr (.inr (.inr (.inl ⟨rfl, h0, h1, hd, h, tick_fails h h0 h1 rfl hd⟩)))
        · exact .inr (.inr (.inr (.inr (.inl ⟨rfl, h0, h1, by omega, h, tick_same h h0 h1 (by omega)⟩))))
      · exact .inr (.inr (.inr (.inr (.inr (.inr (.inl ⟨rfl, h0, h1, h, tick_same h h0 h1 (by omega)⟩))))))
      · exact .inr (.inr (.inr (.inr (.inr (.inr (.inr (.inl ⟨rfl, h0, h1, h, tick_same h h0 h1 (by omega)⟩)))))))
      · exact .inr (.inr (.inr (.inr (.inr (.inr (.inr (.inr ⟨rfl, h0, h1, h, tick_same h h0 h1 (by omega)⟩)))))))

theorem probe_cases (s t r x d k n m : Int) :
    (Hid (probe ⟨s, t, r, x, d⟩ k n m = (⟨0, 0, 0, 0, 0⟩, false))) ∨
    (Hid (probe ⟨s, t, r, x, d⟩ k n m = (⟨s, t, r, x, d⟩, false))) ∨
    (s = 0 ∧ 0 ≤ n ∧ n ≤ 999 ∧ 1 ≤ m ∧ m ≤ 999 ∧ Hid (probe ⟨0, t, r, x, d⟩ k n m = (⟨1, k, r, 0, n + m⟩, true)) ∧ Hid (probe ⟨1, k, r, 0, n + m⟩ k n m = (⟨1, k, r, 0, n + m⟩, false)) ∧ Hid (okB 1 k r 0 (n + m) = true)) := by
  by_cases h : okB s t r x d = true ∧ (0 ≤ k ∧ k ≤ 9999) ∧ (0 ≤ n ∧ n ≤ 999) ∧ (1 ≤ m ∧ m ≤ 999)
  · obtain ⟨h, h1, h2, h3⟩ := h
    by_cases h4 : s = 0
    · subst h4
      have hk := ok_cases h
      have hv : okB 1 k r 0 (n + m) = true := okB_true (by unfold Ok; omega)
      exact .inr (.inr ⟨rfl, h2.1, h2.2, h3.1, h3.2, probe_yes h h1 h2 h3 rfl, probe_no hv h1 h2 h3 (by omega), hv⟩)
    · exact .inr (.inl (probe_no h h1 h2 h3 h4))
  · exact .inl (probe_bad h)

theorem answer_cases (s t r x d k : Int) :
    (Hid (okB s t r x d = false) ∧ Hid (answer ⟨s, t, r, x, d⟩ k = (⟨0, 0, 0, 0, 0⟩, false))) ∨
    (k < 0 ∧ Hid (okB s t r x d = true) ∧ Hid (answer ⟨s, t, r, x, d⟩ k = (⟨0, 0, 0, 0, 0⟩, false))) ∨
    (9999 < k ∧ Hid (okB s t r x d = true) ∧ Hid (answer ⟨s, t, r, x, d⟩ k = (⟨0, 0, 0, 0, 0⟩, false))) ∨
    (s = 1 ∧ k = t ∧ 0 ≤ t ∧ t ≤ 9999 ∧ Hid (okB 1 t r x d = true) ∧ Hid (answer ⟨1, t, r, x, d⟩ t = (⟨2, t, r, x, 0⟩, true))) ∨
    (s = 1 ∧ (t == k) = false ∧ 0 ≤ k ∧ k ≤ 9999 ∧ Hid (okB 1 t r x d = true) ∧ Hid (answer ⟨1, t, r, x, d⟩ k = (⟨1, t, r, x, d⟩, false))) ∨
    ((s == 1) = false ∧ 0 ≤ k ∧ k ≤ 9999 ∧ Hid (okB s t r x d = true) ∧ Hid (answer ⟨s, t, r, x, d⟩ k = (⟨s, t, r, x, d⟩, false))) := by
  cases h : okB s t r x d with
  | false => exact .inl ⟨rfl, answer_bad (by rw [h]; simp)⟩
  | true =>
    rcases (show k < 0 ∨ 9999 < k ∨ (0 ≤ k ∧ k ≤ 9999) from by omega) with hn | hn | ⟨h0, h1⟩
    · exact .inr (.inl ⟨hn, rfl, answer_bad (by omega)⟩)
    · exact .inr (.inr (.inl ⟨hn, rfl, answer_bad (by omega)⟩))
    · by_cases hs : s = 1
      · subst hs
        by_cases ht : t = k
        · subst ht
          exact .inr (.inr (.inr (.inl ⟨rfl, rfl, h0, h1, h, answer_yes h ⟨h0, h1⟩ rfl rfl⟩)))
        · exact .inr (.inr (.inr (.inr (.inl ⟨rfl, by simpa using ht, h0, h1, h, answer_no h ⟨h0, h1⟩ (by omega)⟩))))
      · exact .inr (.inr (.inr (.inr (.inr ⟨by simpa using hs, h0, h1, rfl, answer_no h ⟨h0, h1⟩ (by omega)⟩))))

theorem receive_cases (s t r x d k : Int) :
    (Hid (receive ⟨s, t, r, x, d⟩ k = (⟨0, 0, 0, 0, 0⟩, false))) ∨
    (Hid (receive ⟨s, t, r, x, d⟩ k = (⟨s, t, r, x, d⟩, false))) ∨
    (0 ≤ r ∧ r + k ≤ 9999 ∧ 1 ≤ k ∧ k ≤ 99 ∧ Hid (receive ⟨s, t, r, x, d⟩ k = (⟨s, t, r + k, x, d⟩, true)) ∧ (∀ v, allow r x v ≤ allow (r + k) x v)) := by
  by_cases h : okB s t r x d = true ∧ (1 ≤ k ∧ k ≤ 99)
  · obtain ⟨h, h1⟩ := h
    by_cases h4 : s = 4 ∨ 9999 < r + k
    · exact .inr (.inl (receive_no h h1 h4))
    · have hk := (ok_cases h).1
      refine .inr (.inr ⟨by omega, by omega, by omega, by omega, receive_yes h h1 h4, fun v => ?_⟩)
      have c1 : (0 ≤ r ∧ r ≤ 9999) ∧ (0 ≤ x ∧ x ≤ 9999) := by omega
      have c2 : (0 ≤ r + k ∧ r + k ≤ 9999) ∧ (0 ≤ x ∧ x ≤ 9999) := by omega
      unfold allow
      rw [if_pos c1, if_pos c2]
      cases v
      · show min (max 0 (3 * r - x)) (9999 - x) ≤ min (max 0 (3 * (r + k) - x)) (9999 - x)
        omega
      · exact Int.le_refl _
  · exact .inl (receive_bad h)

/-- A receipt of a size from 1 to 99 on an active path. -/
theorem receive_two {t r x d k : Int} (h : okB 2 t r x d = true) (h0 : 1 ≤ k) (h1 : k ≤ 99) : ∃ R b, receive ⟨2, t, r, x, d⟩ k = (⟨2, t, R, x, d⟩, b) := by
  by_cases h4 : (2 : Int) = 4 ∨ 9999 < r + k
  · exact ⟨_, _, receive_no h ⟨h0, h1⟩ h4⟩
  · exact ⟨_, _, receive_yes h ⟨h0, h1⟩ h4⟩

theorem active_cases (s t r x d n : Int) :
    (Hid (okB s t r x d = false) ∧ Hid (tick ⟨s, t, r, x, d⟩ n = ⟨0, 0, 0, 0, 0⟩)) ∨
    ((s == 2) = false ∧ ∃ S T R X D, Hid (okB s t r x d = true) ∧ Hid (tick ⟨s, t, r, x, d⟩ n = ⟨S, T, R, X, D⟩)) ∨
    (s = 2 ∧ n < 0 ∧ Hid (okB 2 t r x d = true) ∧ Hid (tick ⟨2, t, r, x, d⟩ n = ⟨0, 0, 0, 0, 0⟩)) ∨
    (s = 2 ∧ 999 < n ∧ Hid (okB 2 t r x d = true) ∧ Hid (tick ⟨2, t, r, x, d⟩ n = ⟨0, 0, 0, 0, 0⟩)) ∨
    (s = 2 ∧ 0 ≤ n ∧ n ≤ 999 ∧ Hid (okB 2 t r x d = true) ∧ Hid (tick ⟨2, t, r, x, d⟩ n = ⟨2, t, r, x, d⟩)) := by
  cases h : okB s t r x d with
  | false => exact .inl ⟨rfl, tick_bad (by rw [h]; simp)⟩
  | true =>
    by_cases hs : s = 2
    · subst hs
      rcases (show n < 0 ∨ 999 < n ∨ (0 ≤ n ∧ n ≤ 999) from by omega) with hn | hn | ⟨h0, h1⟩
      · exact .inr (.inr (.inl ⟨rfl, hn, h, tick_bad (by omega)⟩))
      · exact .inr (.inr (.inr (.inl ⟨rfl, hn, h, tick_bad (by omega)⟩)))
      · exact .inr (.inr (.inr (.inr ⟨rfl, h0, h1, h, tick_same h h0 h1 (by omega)⟩)))
    · exact .inr (.inl ⟨by simpa using hs, _, _, _, _, _, rfl, rfl⟩)

theorem send_cases (s t r x d k : Int) :
    (Hid (send ⟨s, t, r, x, d⟩ k = (⟨0, 0, 0, 0, 0⟩, false))) ∨
    (Hid (send ⟨s, t, r, x, d⟩ k = (⟨s, t, r, x, d⟩, false))) ∨
    (s = 2 ∧ 0 ≤ x ∧ x + k ≤ 9999 ∧ 1 ≤ k ∧ Hid (send ⟨2, t, r, x, d⟩ k = (⟨2, t, r, x + k, d⟩, true)) ∧ Hid (okB 2 t r (x + k) d = true)) ∨
    (s = 1 ∧ 0 ≤ x ∧ x + k ≤ 3 * r ∧ 0 ≤ r ∧ r ≤ 9999 ∧ 1 ≤ k ∧ Hid (send ⟨1, t, r, x, d⟩ k = (⟨1, t, r, x + k, d⟩, true)) ∧ Hid (okB 1 t r (x + k) d = true)) := by
  by_cases h : okB s t r x d = true ∧ (1 ≤ k ∧ k ≤ 99)
  · obtain ⟨h, h1⟩ := h
    by_cases h4 : (s = 1 ∨ s = 2) ∧ k ≤ allow r x (s == 2)
    · obtain ⟨hs, ha⟩ := h4
      have hk := ok_cases h
      have hy := send_yes h h1 ⟨hs, ha⟩
      unfold allow at ha
      rw [if_pos (by omega)] at ha
      rcases hs with rfl | rfl
      · rw [if_neg (by decide)] at ha
        have hb : x + k ≤ 3 * r ∧ x + k ≤ 9999 := by omega
        exact .inr (.inr (.inr ⟨rfl, by omega, by omega, by omega, by omega, by omega, hy, okB_true (by unfold Ok; omega)⟩))
      · rw [if_pos (by decide)] at ha
        exact .inr (.inr (.inl ⟨rfl, by omega, by omega, by omega, hy, okB_true (by unfold Ok; omega)⟩))
    · exact .inr (.inl (send_no h h1 h4))
  · exact .inl (send_bad h)

/-- For the law on failing sends: v is the verdict, A the allowance. -/
theorem sendfail_cases (s t r x d k : Int) :
    (Hid (okB s t r x d = false) ∧ Hid (send ⟨s, t, r, x, d⟩ k = (⟨0, 0, 0, 0, 0⟩, false))) ∨
    (k < 1 ∧ Hid (okB s t r x d = true) ∧ Hid (send ⟨s, t, r, x, d⟩ k = (⟨0, 0, 0, 0, 0⟩, false))) ∨
    (99 < k ∧ Hid (okB s t r x d = true) ∧ Hid (send ⟨s, t, r, x, d⟩ k = (⟨0, 0, 0, 0, 0⟩, false))) ∨
    ((s == 1) = false ∧ (s == 2) = false ∧ 1 ≤ k ∧ k ≤ 99 ∧ Hid (okB s t r x d = true) ∧ Hid (send ⟨s, t, r, x, d⟩ k = (⟨s, t, r, x, d⟩, false))) ∨
    (s = 2 ∧ 1 ≤ k ∧ k ≤ 99 ∧ k ≤ allow r x true ∧ Hid (okB 2 t r x d = true) ∧ Hid (send ⟨2, t, r, x, d⟩ k = (⟨2, t, r, x + k, d⟩, true))) ∨
    (s = 2 ∧ 1 ≤ k ∧ k ≤ 99 ∧ allow r x true < k ∧ Hid (okB 2 t r x d = true) ∧ Hid (send ⟨2, t, r, x, d⟩ k = (⟨2, t, r, x, d⟩, false))) ∨
    (s = 1 ∧ 1 ≤ k ∧ k ≤ 99 ∧ k ≤ allow r x false ∧ Hid (okB 1 t r x d = true) ∧ Hid (send ⟨1, t, r, x, d⟩ k = (⟨1, t, r, x + k, d⟩, true))) ∨
    (s = 1 ∧ 1 ≤ k ∧ k ≤ 99 ∧ allow r x false < k ∧ Hid (okB 1 t r x d = true) ∧ Hid (send ⟨1, t, r, x, d⟩ k = (⟨1, t, r, x, d⟩, false))) := by
  cases h : okB s t r x d with
  | false => exact .inl ⟨rfl, send_bad (by rw [h]; simp)⟩
  | true =>
    rcases (show k < 1 ∨ 99 < k ∨ (1 ≤ k ∧ k ≤ 99) from by omega) with hn | hn | ⟨h0, h1⟩
    · exact .inr (.inl ⟨hn, rfl, send_bad (by omega)⟩)
    · exact .inr (.inr (.inl ⟨hn, rfl, send_bad (by omega)⟩))
    · by_cases hs2 : s = 2
      · subst hs2
        by_cases ha : k ≤ allow r x true
        · exact .inr (.inr (.inr (.inr (.inl ⟨rfl, h0, h1, ha, h, send_yes h ⟨h0, h1⟩ ⟨.inr rfl, ha⟩⟩))))
        · exact .inr (.inr (.inr (.inr (.inr (.inl ⟨rfl, h0, h1, by omega, h, send_no h ⟨h0, h1⟩ (fun c => ha c.2)⟩)))))
      · by_cases hs1 : s = 1
        · subst hs1
          by_cases ha : k ≤ allow r x false
          · exact .inr (.inr (.inr (.inr (.inr (.inr (.inl ⟨rfl, h0, h1, ha, h, send_yes h ⟨h0, h1⟩ ⟨.inl rfl, ha⟩⟩))))))
          · exact .inr (.inr (.inr (.inr (.inr (.inr (.inr ⟨rfl, h0, h1, by omega, h, send_no h ⟨h0, h1⟩ (fun c => ha c.2)⟩))))))
        · exact .inr (.inr (.inr (.inl ⟨by simpa using hs1, by simpa using hs2, h0, h1, rfl, send_no h ⟨h0, h1⟩ (by omega)⟩)))

/-- A failed path: no operation revives it. -/
def Fails (t r x d : Int) : Prop := Hid (answer ⟨3, t, r, x, d⟩ t = (⟨3, t, r, x, d⟩, false)) ∧ Hid (probe ⟨3, t, r, x, d⟩ 1 1 1 = (⟨3, t, r, x, d⟩, false)) ∧ Hid (send ⟨3, t, r, x, d⟩ 1 = (⟨3, t, r, x, d⟩, false))
theorem fails_of (h : okB 3 t r x d = true) : Fails t r x d := by
  have hk := (ok_cases h).1
  exact ⟨answer_no h hk.1 (by omega), probe_no h (by omega) (by omega) (by omega) (by omega), send_no h (by omega) (by omega)⟩

theorem failed_cases (s t r x d n : Int) :
    (∃ S T R X D, (S == 3) = false ∧ Hid (tick ⟨s, t, r, x, d⟩ n = ⟨S, T, R, X, D⟩)) ∨
    (∃ T R X D, Hid (tick ⟨s, t, r, x, d⟩ n = ⟨3, T, R, X, D⟩) ∧ Fails T R X D) := by
  rcases tick_cases s t r x d n with ⟨_, h⟩ | ⟨_, _, h⟩ | ⟨_, _, h⟩ | ⟨rfl, _, _, _, v, h⟩ | ⟨rfl, _, _, _, _, h⟩ | ⟨rfl, _, _, _, h⟩ | ⟨rfl, _, _, _, h⟩ | ⟨rfl, _, _, v, h⟩ | ⟨rfl, _, _, _, h⟩
  · exact .inl ⟨_, _, _, _, _, rfl, h⟩
  · exact .inl ⟨_, _, _, _, _, rfl, h⟩
  · exact .inl ⟨_, _, _, _, _, rfl, h⟩
  · exact .inr ⟨_, _, _, _, h, fails_of (ok3 v)⟩
  · exact .inl ⟨_, _, _, _, _, rfl, h⟩
  · exact .inl ⟨_, _, _, _, _, rfl, h⟩
  · exact .inl ⟨_, _, _, _, _, rfl, h⟩
  · exact .inr ⟨_, _, _, _, h, fails_of v⟩
  · exact .inl ⟨_, _, _, _, _, rfl, h⟩

theorem closed_cases (s t r x d : Int) :
    (Hid (okB s t r x d = false) ∧ Hid (close ⟨s, t, r, x, d⟩ = ⟨0, 0, 0, 0, 0⟩)) ∨
    (Hid (okB s t r x d = true) ∧ Hid (close ⟨s, t, r, x, d⟩ = ⟨4, t, r, x, 0⟩) ∧ Hid (probe ⟨4, t, r, x, 0⟩ 1 1 1 = (⟨4, t, r, x, 0⟩, false)) ∧ Hid (answer ⟨4, t, r, x, 0⟩ t = (⟨4, t, r, x, 0⟩, false)) ∧
      Hid (receive ⟨4, t, r, x, 0⟩ 1 = (⟨4, t, r, x, 0⟩, false)) ∧ Hid (send ⟨4, t, r, x, 0⟩ 1 = (⟨4, t, r, x, 0⟩, false)) ∧ Hid (tick ⟨4, t, r, x, 0⟩ 999 = ⟨4, t, r, x, 0⟩) ∧ Hid (close ⟨4, t, r, x, 0⟩ = ⟨4, t, r, x, 0⟩)) := by
  cases h : okB s t r x d with
  | false => exact .inl ⟨rfl, close_bad h⟩
  | true =>
    have h4 := ok4 h
    have hk := (ok_cases h).1
    exact .inr ⟨rfl, close_ok h, probe_no h4 (by omega) (by omega) (by omega) (by omega), answer_no h4 hk.1 (by omega), receive_no h4 (by omega) (.inl rfl), send_no h4 (by omega) (by omega), tick_same h4 (by omega) (by omega) (by omega), close_ok h4⟩
end

end Go.Proofs.Yteajojhfcllodaa
