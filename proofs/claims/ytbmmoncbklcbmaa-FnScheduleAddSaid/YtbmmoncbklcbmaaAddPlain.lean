/- Packets assigned in parts. No program in sight. -/
import Derived.Test.YtbmmoncbklcbmaaSplitS
namespace Go.Proofs.Ytbmmoncbklcbmaa
open Go.RowKit

theorem alloc_congr {s s' : Nat → Int} : ∀ {l : List Nat} {n : Int} {j : Nat}, (∀ k, k ∈ l → s k = s' k) → alloc s l n j = alloc s' l n j
  | [], _, _, _ => rfl
  | i :: t, n, j, h => by
    unfold alloc
    rw [h i List.mem_cons_self, alloc_congr (l := t) fun k hk => h k (List.mem_cons_of_mem _ hk)]
theorem alloc_add {s : Nat → Int} : ∀ {l : List Nat} {n b : Int} {j : Nat}, l.Nodup → 0 ≤ n → 0 ≤ b → (∀ k, k ∈ l → 0 < s k) →
    alloc s l (n + b) j = alloc s l n j + alloc (fun k => s k - alloc s l n k) (l.filter fun k => decide (alloc s l n k < s k)) b j
  | [], _, _, _, _, _, _, _ => rfl
  | i :: t, n, b, j, hd, hn, hb, hs => by
    rw [List.nodup_cons] at hd
    have hsi := hs i List.mem_cons_self
    have hst : ∀ k, k ∈ t → 0 < s k := fun k hk => hs k (List.mem_cons_of_mem _ hk)
    have ei : ∀ m, alloc s (i :: t) m i = min m (s i) := fun m => by show (if i = i then _ else _) = _; rw [if_pos rfl]
    have eo : ∀ m k, k ≠ i → alloc s (i :: t) m k = alloc s t (m - min m (s i)) k := fun m k hk => by show (if k = i then _ else _) = _; rw [if_neg hk]
    have ek : ∀ k, k ∈ t → k ≠ i := fun k hk e => hd.1 (by rw [← e]; exact hk)
    by_cases hlt : n < s i
    · have h0 : ∀ k, k ∈ t → alloc s (i :: t) n k = 0 := fun k hk => by
        rw [eo n k (ek k hk), show n - min n (s i) = 0 from by omega]
        exact alloc_zero s (fun _ => .inr trivial) t k fun z hz => by have := hst z hz; omega
      have hf : ((i :: t).filter fun k => decide (alloc s (i :: t) n k < s k)) = i :: t := by
        rw [List.filter_eq_self]
        intro k hk
        rcases List.mem_cons.1 hk with e | e
        · rw [e, ei]; simp; omega
        · rw [h0 k e]; simpa using hst k e
      rw [hf]
      by_cases hj : j = i
      · subst hj
        rw [ei, ei]
        show _ = _ + (if j = j then _ else _)
        rw [if_pos rfl]
        dsimp only
        rw [ei]
        omega
      · rw [eo _ _ hj, eo _ _ hj]
        show _ = _ + (if j = i then _ else _)
        rw [if_neg hj]
        dsimp only
        rw [ei, show n - min n (s i) = 0 from by omega, alloc_zero s (fun _ => .inr trivial) t j fun z hz => by have := hst z hz; omega]
        rw [alloc_congr (s := fun k => s k - alloc s (i :: t) n k) (s' := s) (fun k hk => by rw [h0 k hk]; omega)]
        rw [Int.zero_add]
        congr 1
        omega
    · have hmin : min n (s i) = s i := by omega
      have hmin2 : min (n + b) (s i) = s i := by omega
      have ih := alloc_add (s := s) (l := t) (n := n - s i) (b := b) (j := j) hd.2 (by omega) hb hst
      have hf : ((i :: t).filter fun k => decide (alloc s (i :: t) n k < s k)) = t.filter fun k => decide (alloc s t (n - s i) k < s k) := by
        rw [List.filter_cons, if_neg (by rw [ei, hmin]; simp)]
        exact List.filter_congr fun k hk => by rw [eo n k (ek k hk), hmin]
      have hc : alloc (fun k => s k - alloc s (i :: t) n k) (t.filter fun k => decide (alloc s t (n - s i) k < s k)) b j = alloc (fun k => s k - alloc s t (n - s i) k) (t.filter fun k => decide (alloc s t (n - s i) k < s k)) b j :=
        alloc_congr fun k hk => by rw [eo n k (ek k (List.mem_filter.1 hk).1), hmin]
      rw [hf, hc]
      by_cases hj : j = i
      · subst hj
        rw [ei, ei, hmin, hmin2, alloc_out (fun hm => hd.1 (List.mem_filter.1 hm).1)]
        omega
      · rw [eo _ _ hj, eo _ _ hj, hmin, hmin2, ← ih]
        congr 1
        omega

/-- What is assigned first and then adds up. -/
theorem split_add {L M : List Opt} {n b : Int} {xs ys zs : List Int} (hok : okO L = true) (hn0 : 0 ≤ n) (hn1 : n ≤ 200) (hb0 : 0 ≤ b) (hb1 : b ≤ 49) (h1 : Splitted L n xs)
    (hM : M.length = L.length) (hMf : ∀ j, j < L.length → onth M j = { onth L j with f := (onth L j).f + inth xs j }) (h2 : Splitted M b ys) (h3 : Splitted L (n + b) zs) :
    xs.length = L.length ∧ ys.length = L.length ∧ zs.length = L.length ∧ ∀ j, j < L.length → inth ys j + inth xs j = inth zs j := by
  rcases h1 with ⟨_, _, O, hO, rfl⟩ | ⟨h, _⟩
  · rcases h3 with ⟨_, _, O', hO', rfl⟩ | ⟨h, _⟩
    · obtain rfl := order_unique hO hO'
      have hA : After L M O n := ⟨hM, fun j hj => by rw [hMf j hj, share_at hj]⟩
      have hsp := order_sp hO
      have hokM : okO M = true := by
        rw [okO_iff] at hok ⊢
        rw [hM]
        refine ⟨fun j hj => ?_, hok.2⟩
        have hb := optB_iff.1 (hok.1 j hj)
        have h0 := alloc_bd (sp := sp L) (l := O) (n := n) (j := j) hn0 fun k hk => by have := hsp k hk; omega
        rw [hA.2 j hj, optB_iff]
        refine ⟨hb.1, hb.2.1, ?_⟩
        show 0 ≤ (onth L j).f + alloc (sp L) O n j ∧ (onth L j).f + alloc (sp L) O n j ≤ 64
        by_cases hm : j ∈ O
        · have := h0.2 hm
          have hh := h0.1
          rw [show sp L j = (onth L j).w - (onth L j).f from rfl] at this
          omega
        · rw [alloc_out hm]; omega
      rcases h2 with ⟨_, _, O2, hO2, rfl⟩ | ⟨h, _⟩
      · have e2 := order_unique hO2 (after_order hA hO)
        subst e2
        refine ⟨share_len _ _ _, by rw [share_len, hM], share_len _ _ _, fun j hj => ?_⟩
        rw [share_at hj, share_at hj, share_at (by omega), alloc_add (order_nodup hO) hn0 hb0 hsp]
        rw [alloc_congr (s := sp M) (s' := fun k => sp L k - alloc (sp L) O n k) (fun k hk => by
          have hkO := (List.mem_filter.1 hk).1
          have hkl := ((hO.2 k).1 hkO).1
          unfold sp
          rw [hA.2 k hkl]
          show (onth L k).w - ((onth L k).f + alloc (sp L) O n k) = _
          unfold sp
          omega)]
        omega
      · exact absurd ⟨hokM, hb0, by omega⟩ h
    · exact absurd ⟨hok, by omega, by omega⟩ h
  · exact absurd ⟨hok, hn0, by omega⟩ h

end Go.Proofs.Ytbmmoncbklcbmaa
