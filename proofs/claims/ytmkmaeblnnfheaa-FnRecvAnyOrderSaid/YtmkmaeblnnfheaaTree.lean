/- Drawn regions in which two operations that may turn the world are ready at once: a tree of walks, one for each choice. -/
import Derived.Test.YtmkmaeblnnfheaaMg2
namespace Go.Proofs.Ytmkmaeblnnfheaa

/-- A walk: stretches of operations that only look, behind each the one that may turn the world, or the choice of two. -/
inductive Tr
  | last (t : List Nat)
  | one (s : List Nat) (c : Nat) (r : Tr)
  | two (s : List Nat) (c : Nat) (r : Tr) (c' : Nat) (r' : Tr)
section
variable {P : Program} {md : Region.Mode}
/-- The operation c, then what is said of the rest. -/
def TurnsAt (P : Program) (l : List Oper) (B C : World → Prop) (c : Nat) (K : (World → Prop) → (World → Prop) → Act → Prop) (a : Act) : Prop :=
  ∃ o, l[c]? = some o ∧ o.guard = none ∧ Turns P o a B C K
def TreeW (P : Program) (l : List Oper) (Q : Act → World → Prop) : Tr → (World → Prop) → (World → Prop) → Act → Prop
  | .last t, B, C, a => wpQuiet P l.toArray (fun w' => ∃ x : In B, w' = x.w) (fun a' => ∀ w, C w → Q a' w) (opsAt l t) a
  | .one s c r, B, C, a => wpQuiet P l.toArray (fun w' => ∃ x : In B, w' = x.w) (fun a' => TurnsAt P l B C c (TreeW P l Q r) a') (opsAt l s) a
  | .two s c r c' r', B, C, a => wpQuiet P l.toArray (fun w' => ∃ x : In B, w' = x.w) (fun a' => TurnsAt P l B C c (TreeW P l Q r) a' ∧ TurnsAt P l B C c' (TreeW P l Q r') a') (opsAt l s) a
def treeOk (md : Region.Mode) (l : List Oper) : Tr → Array Bool → Bool
  | .last t, listed => match firstB md l listed t with
    | (b, k) => b && (Region.ready md l.toArray k).isEmpty
  | .one s c r, listed => match firstB md l listed s with
    | (b, k) => b && (Region.ready md l.toArray k == [c]) && treeOk md l r (k.setIfInBounds c true)
  | .two s c r c' r', listed => match firstB md l listed s with
    | (b, k) => b && (Region.ready md l.toArray k == [c, c']) && treeOk md l r (k.setIfInBounds c true) && treeOk md l r' (k.setIfInBounds c' true)
def treeLen : Tr → Nat
  | .last t => t.length
  | .one s _ r => s.length + (treeLen r + 1)
  | .two s _ r _ _ => s.length + (treeLen r + 1)
/-- Both choices are of one length. -/
def treeEven : Tr → Bool
  | .last _ => true
  | .one _ _ r => treeEven r
  | .two _ _ r _ r' => treeEven r && treeEven r' && (treeLen r == treeLen r')

theorem turns_op {l : List Oper} {B C : World → Prop} {c : Nat} {K K' : (World → Prop) → (World → Prop) → Act → Prop} {a : Act} (h : TurnsAt P l B C c K a) (hK : ∀ B' C' a'', (∀ x, C' x → B' x) → K B' C' a'' → K' B' C' a'') : opC P l.toArray B C c K' a := by
  obtain ⟨o, ho, hg, ht⟩ := h
  unfold opC
  have hoa : l.toArray[c]? = some o := by simpa using ho
  simp only [hoa]
  have hw : Region.wanted o (yielded l.toArray a.tmps) = true := by unfold Region.wanted; rw [hg]
  simp only [hw, if_true]
  exact .inr (Turns.mono (fun B' C' a'' _ hBC' hk => hK B' C' a'' hBC' hk) ht)
theorem tree_any {l : List Oper} {Q : Act → World → Prop} (hsel : Region.noSelect l.toArray = true) :
    ∀ (t : Tr) (listed : Array Bool) (B C : World → Prop) (a : Act), (∀ x, C x → B x) → treeOk md l t listed = true → treeEven t = true → TreeW P l Q t B C a → anyC P md l.toArray Q (treeLen t) listed B C a
  | .last t, listed, B, C, a, hBC, hB, _, h => by
    unfold treeOk at hB
    dsimp only at hB
    simp only [Bool.and_eq_true, List.isEmpty_iff] at hB
    unfold TreeW at h
    rw [cls_eq] at h
    exact first_lex (g := 0) hsel hBC t listed a hB.1 (fun a' hk => ⟨hB.2, hk⟩) h
  | .one s c r, listed, B, C, a, hBC, hB, he, h => by
    unfold treeOk at hB
    dsimp only at hB
    simp only [Bool.and_eq_true, beq_iff_eq] at hB
    obtain ⟨⟨h1, h2⟩, h3⟩ := hB
    unfold treeEven at he
    unfold TreeW at h
    rw [cls_eq] at h
    refine first_lex (g := treeLen r + 1) hsel hBC s listed a h1 (fun a' ht => ?_) h
    refine ⟨fun h0 => (by rw [h2] at h0; cases h0), fun i hi => ?_⟩
    rw [h2] at hi
    obtain rfl : i = c := by simpa using hi
    exact turns_op ht fun B' C' a'' hBC' hk => tree_any hsel r _ B' C' a'' hBC' h3 he hk
  | .two s c r c' r', listed, B, C, a, hBC, hB, he, h => by
    unfold treeOk at hB
    dsimp only at hB
    simp only [Bool.and_eq_true, beq_iff_eq] at hB
    obtain ⟨⟨⟨h1, h2⟩, h3⟩, h4⟩ := hB
    unfold treeEven at he
    simp only [Bool.and_eq_true, beq_iff_eq] at he
    obtain ⟨⟨e1, e2⟩, e3⟩ := he
    unfold TreeW at h
    rw [cls_eq] at h
    refine first_lex (g := treeLen r + 1) hsel hBC s listed a h1 (fun a' ht => ?_) h
    refine ⟨fun h0 => (by rw [h2] at h0; cases h0), fun i hi => ?_⟩
    rw [h2] at hi
    simp only [List.mem_cons, List.not_mem_nil, or_false] at hi
    rcases hi with rfl | rfl
    · exact turns_op ht.1 fun B' C' a'' hBC' hk => tree_any hsel r _ B' C' a'' hBC' h3 e1 hk
    · refine turns_op ht.2 fun B' C' a'' hBC' hk => ?_
      have := tree_any hsel r' _ B' C' a'' hBC' h4 e2 hk
      rw [← e3] at this
      exact this
end

/-- The rule. -/
theorem wp_region_tree {P : Program} {l : List Oper} {id : Nat} {Q : Exit → Act → World → Prop} {a : Act} {W : World} (B C : World → Prop) (t : Tr)
    (hm : P.follows .mixedOrders = true) (hB : (Region.noSelect l.toArray && treeOk .any l t (Array.replicate l.length false) && treeEven t && (treeLen t == l.length)) = true) (hBC : ∀ x, C x → B x) (hC : ∀ n, C { W with drawn := n })
    (h : TreeW P l (fun a' w' => Q .normal a' w') t B C a) : (Code.region id l.toArray true).wp P Q a W := by
  simp only [Bool.and_eq_true, beq_iff_eq] at hB
  obtain ⟨⟨⟨h1, h2⟩, h3⟩, h4⟩ := hB
  refine wp_region_any hm ?_
  have := any_of_anyC (Q' := Q) (fun _ _ hq => hq) _ _ B C a _ hBC (hC (W.drawn + 1)) (tree_any h1 t _ B C a hBC h2 h3 h)
  rw [h4] at this
  simpa using this

end Go.Proofs.Ytmkmaeblnnfheaa
