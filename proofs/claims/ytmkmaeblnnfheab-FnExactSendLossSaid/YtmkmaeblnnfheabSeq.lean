/- A region that draws its order, walked once in an order of our choosing: operations that only look, and between them operations that turn the world, each of which comes up alone once those ahead of it in our order are done. -/
import Derived.Test.YtmkmaeblnnfheabUp
import Derived.StillTail
namespace Go.Proofs.Ytmkmaeblnnfheab

section
variable {P : Program} {ops : Array Oper} {md : Region.Mode}

/-- No way out but the plain one. -/
def NoExit : Exit → Act → World → Prop := fun _ _ _ => False
theorem wp_noexit {o : Oper} {a : Act} {w : World} {K K' : Act → World → Prop} {Q : Exit → Act → World → Prop} (h : ∀ a w, K a w → K' a w) (hh : o.wp P a w K NoExit) : o.wp P a w K' Q := by
  unfold Oper.wp at *
  generalize (execOp a.eval o).run P w = r at *
  cases r with
  | ok n w' =>
    cases n <;> simp only [Oper.upon] at hh ⊢ <;>
      first
        | exact h _ _ hh
        | exact Calls.mono hh (fun e w'' he => by
            cases e with
            | returned v => exact h _ _ he
            | panicked c => exact (he : False).elim
            | outgrown => exact (he.elim fun _ he => he.elim fun _ he => (he : False).elim))
        | exact Rows.mono hh (fun _ _ he => h _ _ he)
  | halt x w' =>
    cases x <;> simp only [Oper.upon] at hh ⊢
    exact (hh : False).elim

/-- An operation that may turn the world: from each world of the class; behind it stands a class within the elder one. -/
def Turns (P : Program) (o : Oper) (a : Act) (C : World → Prop) (K : (World → Prop) → Act → Prop) : Prop :=
  ∀ w, C w → o.wp P a w (fun a' w' => ∃ C' : World → Prop, C' w' ∧ (∀ x, C' x → C x) ∧ K C' a') NoExit

/-- In every world of the class it yields v and leaves that world alone: no call. -/
def LooksAt (P : Program) (o : Oper) (a : Act) (C : World → Prop) (v : Value) : Prop :=
  ∀ w, C w → (execOp a.eval o).run P w = .ok (.value v) w ∨ ((execOp a.eval o).run P w = .ok .skip w ∧ v = undef)

def opC (P : Program) (ops : Array Oper) (C : World → Prop) (i : Nat) (K : (World → Prop) → Act → Prop) (a : Act) : Prop :=
  match ops[i]? with
  | none => K C a
  | some o => if Region.wanted o (yielded ops a.tmps) then (∃ v, LooksAt P o a C v ∧ K C (a.put o.dst v)) ∨ Turns P o a C K else K C (a.put o.dst undef)

theorem Turns.mono {o : Oper} {a : Act} {C : World → Prop} {K K' : (World → Prop) → Act → Prop} (h : ∀ C' a, (∀ x, C' x → C x) → K C' a → K' C' a) (hh : Turns P o a C K) : Turns P o a C K' :=
  fun w hw => Oper.wp_mono (fun _ _ ⟨C', h1, h2, h3⟩ => ⟨C', h1, h2, h _ _ h2 h3⟩) (hh w hw)
theorem opC_mono {C : World → Prop} {i : Nat} {a : Act} {K K' : (World → Prop) → Act → Prop} (h : ∀ C' a, (∀ x, C' x → C x) → K C' a → K' C' a) (hh : opC P ops C i K a) : opC P ops C i K' a := by
  unfold opC at *
  split
  · exact h _ _ (fun _ hx => hx) (by simpa [*] using hh)
  · rename_i o ho
    simp only [ho] at hh
    split
    · rename_i hw
      simp only [hw, if_true] at hh
      exact hh.imp (fun ⟨v, h1, h2⟩ => ⟨v, h1, h _ _ (fun _ hx => hx) h2⟩) (Turns.mono h)
    · rename_i hw
      simp only [hw] at hh
      exact h _ _ (fun _ hx => hx) hh

/-- Whatever order is picked from here on. -/
def anyC (P : Program) (md : Region.Mode) (ops : Array Oper) (Q : Act → World → Prop) : Nat → Array Bool → (World → Prop) → Act → Prop
  | 0, listed, C, a => Region.ready md ops listed = [] ∧ ∀ w, C w → Q a w
  | f + 1, listed, C, a => (Region.ready md ops listed = [] → ∀ w, C w → Q a w) ∧ ∀ i ∈ Region.ready md ops listed, opC P ops C i (anyC P md ops Q f (listed.setIfInBounds i true)) a

theorem any_of_anyC {Q : Act → World → Prop} {Q' : Exit → Act → World → Prop} (hQ : ∀ a w, Q a w → Q' .normal a w) : ∀ (f : Nat) (listed : Array Bool) (C : World → Prop) (a : Act) (w : World), C w → anyC P md ops Q f listed C a → wpAny P md ops Q' f listed a w
  | 0, _, _, _, _, hw, h => ⟨h.1, hQ _ _ (h.2 _ hw)⟩
  | f + 1, listed, C, a, w, hw, h => ⟨fun h0 => hQ _ _ (h.1 h0 _ hw), fun i hi => by
      have h1 := h.2 i hi
      unfold opC at h1
      unfold wpOp
      split
      · rename_i ho
        simp only [ho] at h1
        exact any_of_anyC hQ f _ _ _ _ hw h1
      · rename_i o ho
        simp only [ho] at h1
        split
        · rename_i hwd
          simp only [hwd, if_true] at h1
          refine .inl ?_
          rcases h1 with ⟨v, hl, hk⟩ | ht
          · unfold Oper.wp
            rcases hl w hw with e | ⟨e, rfl⟩
            · rw [e]; exact any_of_anyC hQ f _ _ _ _ hw hk
            · rw [e]; exact any_of_anyC hQ f _ _ _ _ hw hk
          · exact wp_noexit (fun a' w' ⟨C', h2, _, h3⟩ => any_of_anyC hQ f _ _ _ _ h2 h3) (ht w hw)
        · rename_i hwd
          simp only [hwd] at h1
          exact any_of_anyC hQ f _ _ _ _ hw h1⟩

/-- In state 'a' it leaves 'v' in its slot, in every world of the class. -/
def LeavesV (P : Program) (ops : Array Oper) (C : World → Prop) (o : Oper) (v : Value) (a : Act) : Prop :=
  (Region.wanted o (yielded ops a.tmps) = true ∧ LooksAt P o a C v) ∨ (Region.wanted o (yielded ops a.tmps) = false ∧ v = undef)
theorem LeavesV.of_same {C : World → Prop} {o : Oper} {v : Value} {a a' : Act} (hy : LeavesV P ops C o v a) (he : execOp a'.eval o = execOp a.eval o)
    (hw : Region.wanted o (yielded ops a'.tmps) = Region.wanted o (yielded ops a.tmps)) : LeavesV P ops C o v a' := by
  unfold LeavesV LooksAt at *
  rw [he, hw]
  exact hy
theorem LeavesV.sub {C C' : World → Prop} {o : Oper} {v : Value} {a : Act} (hs : ∀ x, C' x → C x) (hy : LeavesV P ops C o v a) : LeavesV P ops C' o v a :=
  hy.imp (fun ⟨h1, h2⟩ => ⟨h1, fun w hw => h2 w (hs w hw)⟩) id
theorem LeavesV.opC {C : World → Prop} {i : Nat} {o : Oper} {v : Value} {a : Act} (hi : ops[i]? = some o) (hy : LeavesV P ops C o v a) {K : (World → Prop) → Act → Prop} (h : K C (a.put o.dst v)) : opC P ops C i K a := by
  unfold Go.Proofs.Ytmkmaeblnnfheab.opC
  simp only [hi]
  rcases hy with ⟨hw, hv⟩ | ⟨hw, rfl⟩
  · simp only [hw, if_true]; exact .inl ⟨v, hv, h⟩
  · simp only [hw, Bool.false_eq_true, if_false]; exact h

theorem opC_put {C : World → Prop} {j : Nat} {oi oj : Oper} {v : Value} (hj : ops[j]? = some oj) (hap : oi.apart ops oj = true)
    (hsi : ∀ cs b, oi.op ≠ .select cs b) (hsj : ∀ cs b, oj.op ≠ .select cs b) {K : (World → Prop) → Act → Prop} {a : Act}
    (hy : LeavesV P ops C oi v a) (h : opC P ops C j K (a.put oi.dst v)) :
    opC P ops C j (fun C' a' => LeavesV P ops C' oi v a' ∧ K C' (a'.put oi.dst v)) a := by
  obtain ⟨h1, h2, h3⟩ := Oper.apart_spec hap
  have keep : ∀ (C' : World → Prop) (a : Act), LeavesV P ops C' oi v a → ∀ u, LeavesV P ops C' oi v (a.put oj.dst u) := fun C' a hy u =>
    hy.of_same (execOp_put oi hsi a oj.dst u h3) (wanted_put oi a oj.dst u h3)
  have keepD : ∀ (C' : World → Prop), LeavesV P ops C' oi v a → ∀ d, LeavesV P ops C' oi v { a with defers := d :: a.defers } := fun C' hy d => hy.of_same rfl rfl
  unfold opC at *
  simp only [hj] at *
  rw [wanted_put oj a oi.dst v h1] at h
  split
  · rename_i hw
    simp only [hw, if_true] at h
    rcases h with ⟨u, hu, hk⟩ | ht
    · refine .inl ⟨u, fun w hw' => ?_, keep _ a hy u, by rw [← Act.put_comm a v u h2]; exact hk⟩
      have := hu w hw'
      rwa [execOp_put oj hsj a oi.dst v h1] at this
    · refine .inr fun w hw' => ?_
      have h := ht w hw'
      unfold Oper.wp at *
      rw [execOp_put oj hsj a oi.dst v h1] at h
      generalize (execOp a.eval oj).run P w = r at *
      cases r with
      | ok n w' =>
        cases n <;> simp only [Oper.upon] at h ⊢
        case value u =>
          obtain ⟨C', c1, c2, c3⟩ := h
          exact ⟨C', c1, c2, keep _ a (hy.sub c2) u, by rw [← Act.put_comm a v u h2]; exact c3⟩
        case skip =>
          obtain ⟨C', c1, c2, c3⟩ := h
          exact ⟨C', c1, c2, keep _ a (hy.sub c2) _, by rw [← Act.put_comm a v undef h2]; exact c3⟩
        case defer d =>
          obtain ⟨C', c1, c2, c3⟩ := h
          refine ⟨C', c1, c2, keep _ _ (keepD _ (hy.sub c2) d) _, ?_⟩
          rw [← Act.put_comm _ v undef h2, ← Act.put_defers]
          exact c3
        case enter f args =>
          refine Calls.mono h fun e w'' he => ?_
          cases e with
          | returned u =>
            obtain ⟨C', c1, c2, c3⟩ := he
            exact ⟨C', c1, c2, keep _ a (hy.sub c2) u, by rw [← Act.put_comm a v u h2]; exact c3⟩
          | panicked c => exact he
          | outgrown => exact (he.elim fun _ he => he.elim fun _ he => (he : False).elim)
        case row row args =>
          exact Rows.mono h fun u w'' he => by
            obtain ⟨C', c1, c2, c3⟩ := he
            exact ⟨C', c1, c2, keep _ a (hy.sub c2) u, by rw [← Act.put_comm a v u h2]; exact c3⟩
      | halt x w' =>
        cases x <;> simp only [Oper.upon] at h ⊢
        exact h
  · rename_i hw
    simp only [hw] at h
    exact ⟨keep _ a hy _, by rw [← Act.put_comm a v undef h2]; exact h⟩

theorem anyC_first {Q : Act → World → Prop} {i : Nat} {oi : Oper} {v : Value} (hi : ops[i]? = some oi) (hsel : ∀ (j : Nat) (o : Oper) cs b, ops[j]? = some o → o.op ≠ .select cs b) :
    ∀ (f : Nat) (listed : Array Bool) (C : World → Prop) (a : Act),
      (∀ j oj, ops[j]? = some oj → j ≠ i → listed.getD j true = false → (∀ e ∈ oj.after, Region.binds md e = true → e.on ≠ i) → oi.apart ops oj = true) →
      i ∈ Region.ready md ops listed → LeavesV P ops C oi v a →
      anyC P md ops Q f (listed.setIfInBounds i true) C (a.put oi.dst v) → anyC P md ops Q (f + 1) listed C a := by
  intro f
  induction f with
  | zero =>
    intro listed C a _ hr hy H
    refine ⟨fun h => (by rw [h] at hr; cases hr), fun j hj => ?_⟩
    by_cases hji : j = i
    · subst hji; exact hy.opC hi H
    · have := ready_mono hj hji
      rw [H.1] at this
      cases this
  | succ f ih =>
    intro listed C a hfree hr hy H
    refine ⟨fun h => (by rw [h] at hr; cases hr), fun j hj => ?_⟩
    by_cases hji : j = i
    · subst hji; exact hy.opC hi H
    · have h1 := H.2 j (ready_mono hj hji)
      obtain ⟨hjun, oj, hoj, hall⟩ := mem_ready.1 hj
      have hnot : ∀ e ∈ oj.after, Region.binds md e = true → e.on ≠ i := fun e he hb heq => by
        have h1 := hall e he hb
        have h0 := (mem_ready.1 hr).1
        rw [heq] at h1
        rcases Nat.lt_or_ge i listed.size with h' | h'
        · simp [h'] at h0 h1; rw [h0] at h1; cases h1
        · simp [Array.getElem?_eq_none h'] at h1
      have h2 := opC_put hoj (hfree j oj hoj hji hjun hnot) (fun cs b => hsel i oi cs b hi) (fun cs b => hsel j oj cs b hoj) hy h1
      have hfree' : ∀ k ok, ops[k]? = some ok → k ≠ i → (listed.setIfInBounds j true).getD k true = false →
          (∀ e ∈ ok.after, Region.binds md e = true → e.on ≠ i) → oi.apart ops ok = true := fun k ok hk hki hun hno => by
        refine hfree k ok hk hki ?_ hno
        by_cases hjk : j = k
        · subst hjk; exact hjun
        · rw [getD_set_ne true hjk] at hun; exact hun
      refine opC_mono (fun C' a' _ h3 => ih (listed.setIfInBounds j true) C' a' hfree' (ready_mono hr (Ne.symm hji)) h3.1 ?_) h2
      rw [Array.setIfInBounds_comm _ _ hji]
      exact h3.2

/-! Our order -/

/-- Kinds of operation that enter no function. -/
def plainB (o : Oper) : Bool :=
  match o.op with
  | .move _ | .assign _ | .pick .. | .build .. | .load .. | .binOp .. | .unOp .. | .slice .. | .fieldAddr .. | .field .. | .indexAddr .. | .index .. | .extract .. | .convert .. => true
  | _ => false
theorem run_value_not {s : Sem Value} {w w' : World} {f : FuncId} {args : Array Value} : ((do pure (Next.value (← s)) : Sem Next)).run P w ≠ .ok (.enter f args) w' := by
  rw [Sem.run_bind]
  cases s.run P w with
  | ok v w1 =>
    intro h
    simp [Result.andThen] at h
  | halt x w1 =>
    intro h
    simp [Result.andThen] at h
theorem plain_not {o : Oper} (h : plainB o = true) {ρ : Operand → Value} {w w' : World} {f : FuncId} {args : Array Value} : (execOp ρ o).run P w ≠ .ok (.enter f args) w' := by
  obtain ⟨dst, op, type, pos, after, guard⟩ := o
  unfold plainB at h
  unfold execOp
  cases op <;> first | exact run_value_not | (simp at h; done) | skip
  all_goals
    intro e
    first
    | (simp at e; done)
    | (rw [Sem.run_bind] at e
       generalize (asBool _).run P w = r at e
       cases r <;> simp [Result.andThen] at e)
theorem looks_of_quiet {o : Oper} (h : plainB o = true) {a : Act} {C : World → Prop} {v : Value} (hq : ∀ w, C w → o.quietAt P a C w v) : LooksAt P o a C v := fun w hw => by
  have h1 := hq w hw
  have h2 := fun f args w' => plain_not (P := P) (ρ := a.eval) (w := w) (w' := w') (f := f) (args := args) h
  unfold Oper.quietAt at h1
  generalize (execOp a.eval o).run P w = r at *
  cases r with
  | ok n w' =>
    cases n <;> simp only [Oper.quietUpon] at h1
    case value u => obtain ⟨e1, e2⟩ := h1; rw [e1, e2]; exact .inl rfl
    case skip => obtain ⟨e1, e2⟩ := h1; rw [e1]; exact .inr ⟨rfl, e2⟩
    case enter f args => exact absurd rfl (h2 f args w')
  | halt x w' => simp only [Oper.quietUpon] at h1

/-- The operations at these places. -/
def opsAt (l : List Oper) (s : List Nat) : List Oper := s.filterMap (l[·]?)
/-- The walk: stretches of operations that only look, each followed by one that may turn the world. -/
def Seq (P : Program) (l : List Oper) (Q : Act → World → Prop) (t : List Nat) : List (List Nat × Nat) → (World → Prop) → Act → Prop
  | [], C, a => wpQuiet P l.toArray C (fun a' => ∀ w, C w → Q a' w) (opsAt l t) a
  | (s, c) :: rest, C, a => wpQuiet P l.toArray C (fun a' => ∃ o, l[c]? = some o ∧ o.guard = none ∧ Turns P o a' C (Seq P l Q t rest)) (opsAt l s) a
/-- May these operations be taken first, one after the other? -/
def firstB (md : Region.Mode) (l : List Oper) (listed : Array Bool) : List Nat → Bool × Array Bool
  | [] => (true, listed)
  | i :: s => match firstB md l (listed.setIfInBounds i true) s with
    | (b, k) => ((Region.ready md l.toArray listed).contains i && Region.free md l.toArray listed i && ((l[i]?).map plainB).getD false && b, k)
def seqOk (md : Region.Mode) (l : List Oper) (t : List Nat) : List (List Nat × Nat) → Array Bool → Bool
  | [], listed => match firstB md l listed t with
    | (b, k) => b && (Region.ready md l.toArray k).isEmpty
  | (s, c) :: rest, listed => match firstB md l listed s with
    | (b, k) => b && (Region.ready md l.toArray k == [c]) && seqOk md l t rest (k.setIfInBounds c true)

theorem first_lex {l : List Oper} {Q : Act → World → Prop} (hsel : Region.noSelect l.toArray = true) {C : World → Prop} {K : Act → Prop} {g : Nat} :
    ∀ (s : List Nat) (listed : Array Bool) (a : Act), (firstB md l listed s).1 = true →
      (∀ a', K a' → anyC P md l.toArray Q g (firstB md l listed s).2 C a') → wpQuiet P l.toArray C K (opsAt l s) a → anyC P md l.toArray Q (s.length + g) listed C a
  | [], listed, a, _, hK, h => by
    rw [List.length_nil, Nat.zero_add]
    exact hK a h
  | i :: s, listed, a, hB, hK, h => by
    have hB' := hB
    unfold firstB at hB hK
    dsimp only at hB hK
    simp only [Bool.and_eq_true] at hB
    obtain ⟨⟨⟨h1, h2⟩, h3⟩, h4⟩ := hB
    cases ho : l[i]? with
    | none => rw [ho] at h3; cases h3
    | some o =>
      rw [ho] at h3
      have hoa : l.toArray[i]? = some o := by simpa using ho
      have e : opsAt l (i :: s) = o :: opsAt l s := by unfold opsAt; rw [List.filterMap_cons]; simp [ho]
      rw [e] at h
      rw [List.length_cons, Nat.succ_add]
      have hlex : ∃ v, LeavesV P l.toArray C o v a ∧ wpQuiet P l.toArray C K (opsAt l s) (a.put o.dst v) := by
        change (if Region.wanted o (yielded l.toArray a.tmps) then o.quiet P a C (wpQuiet P l.toArray C K (opsAt l s)) else wpQuiet P l.toArray C K (opsAt l s) (a.put o.dst undef)) at h
        by_cases hw : Region.wanted o (yielded l.toArray a.tmps) = true
        · rw [if_pos hw] at h
          obtain ⟨v, hv, hk⟩ := h
          exact ⟨v, .inl ⟨hw, looks_of_quiet (by simpa using h3) hv⟩, hk⟩
        · rw [if_neg hw] at h
          exact ⟨undef, .inr ⟨by simpa using hw, rfl⟩, h⟩
      obtain ⟨v, hv, hk⟩ := hlex
      exact anyC_first hoa (Region.noSelect_spec hsel) _ listed C a (Region.free_spec hoa h2) (by simpa using h1) hv
        (first_lex hsel s (listed.setIfInBounds i true) _ h4 hK hk)

def seqLen (t : List Nat) : List (List Nat × Nat) → Nat
  | [] => t.length
  | (s, _) :: rest => s.length + (seqLen t rest + 1)
theorem seq_any {l : List Oper} {Q : Act → World → Prop} {t : List Nat} (hsel : Region.noSelect l.toArray = true) :
    ∀ (segs : List (List Nat × Nat)) (listed : Array Bool) (C : World → Prop) (a : Act), seqOk md l t segs listed = true → Seq P l Q t segs C a → anyC P md l.toArray Q (seqLen t segs) listed C a
  | [], listed, C, a, hB, h => by
    unfold seqOk at hB
    dsimp only at hB
    simp only [Bool.and_eq_true, List.isEmpty_iff] at hB
    exact first_lex (g := 0) hsel t listed a hB.1 (fun a' hk => ⟨hB.2, hk⟩) h
  | (s, c) :: rest, listed, C, a, hB, h => by
    unfold seqOk at hB
    dsimp only at hB
    simp only [Bool.and_eq_true, beq_iff_eq] at hB
    obtain ⟨⟨h1, h2⟩, h3⟩ := hB
    refine first_lex (g := seqLen t rest + 1) hsel s listed a h1 (fun a' ⟨o, ho, hg, ht⟩ => ?_) h
    refine ⟨fun h0 => (by rw [h2] at h0; cases h0), fun i hi => ?_⟩
    rw [h2] at hi
    obtain rfl : i = c := by simpa using hi
    unfold opC
    have hoa : l.toArray[i]? = some o := by simpa using ho
    simp only [hoa]
    have hw : Region.wanted o (yielded l.toArray a'.tmps) = true := by unfold Region.wanted; rw [hg]
    simp only [hw, if_true]
    exact .inr (Turns.mono (fun C' a'' _ hk => seq_any hsel rest _ C' a'' h3 hk) ht)
end

/-- The rule. -/
theorem wp_region_seq {P : Program} {l : List Oper} {id : Nat} {Q : Exit → Act → World → Prop} {a : Act} {W : World} (C : World → Prop) (segs : List (List Nat × Nat)) (t : List Nat)
    (hm : P.follows .mixedOrders = true) (hB : (Region.noSelect l.toArray && seqOk .any l t segs (Array.replicate l.length false) && (seqLen t segs == l.length)) = true) (hC : ∀ n, C { W with drawn := n })
    (h : Seq P l (fun a' w' => Q .normal a' w') t segs C a) : (Code.region id l.toArray true).wp P Q a W := by
  simp only [Bool.and_eq_true, beq_iff_eq] at hB
  obtain ⟨⟨h1, h2⟩, h3⟩ := hB
  refine wp_region_any hm ?_
  have := any_of_anyC (Q' := Q) (fun _ _ hq => hq) _ _ C a _ (hC (W.drawn + 1)) (seq_any h1 segs _ C a h2 h)
  rw [h3] at this
  simpa using this

/-- The worlds of a class, as letters. -/
structure In (C : World → Prop) where
  w : World
  h : C w
def cls (C : World → Prop) (w' : World) : Prop := ∃ x : In C, w' = x.w
theorem cls_mk {C : World → Prop} {w : World} (h : C w) : cls C w := ⟨⟨w, h⟩, rfl⟩
theorem turns_step {P : Program} {o : Oper} {a : Act} {C : World → Prop} {K : (World → Prop) → Act → Prop}
    (h : ∀ Z : Act → World → Prop, (∀ (C' : World → Prop) a' w', C' w' → (∀ x, C' x → C x) → K (fun w' => ∃ x : In C', w' = x.w) a' → Z a' w') → ∀ w, C w → o.wp P a w Z NoExit) : Turns P o a (fun w' => ∃ x : In C, w' = x.w) K := by
  rintro _ ⟨x, rfl⟩
  refine h _ (fun C' a' w' h1 h2 h3 => ⟨cls C', cls_mk h1, fun y ⟨z, hz⟩ => ?_, h3⟩) x.w x.h
  subst hz
  exact cls_mk (h2 _ z.h)
theorem seq_last {C : World → Prop} {Q : Act → World → Prop} {a : Act} (h : ∀ w, C w → Q a w) : ∀ w, (∃ x : In C, w = x.w) → Q a w := by
  rintro _ ⟨x, rfl⟩
  exact h _ x.h

/-- The rule, for such classes. -/
theorem wp_region_cls {P : Program} {l : List Oper} {id : Nat} {Q : Exit → Act → World → Prop} {a : Act} {W : World} (C : World → Prop) (segs : List (List Nat × Nat)) (t : List Nat)
    (hm : P.follows .mixedOrders = true) (hB : (Region.noSelect l.toArray && seqOk .any l t segs (Array.replicate l.length false) && (seqLen t segs == l.length)) = true) (hC : ∀ n, C { W with drawn := n })
    (h : Seq P l (fun a' w' => Q .normal a' w') t segs (fun w' => ∃ x : In C, w' = x.w) a) : (Code.region id l.toArray true).wp P Q a W := wp_region_seq (cls C) segs t hm hB (fun n => cls_mk (hC n)) h

end Go.Proofs.Ytmkmaeblnnfheab
