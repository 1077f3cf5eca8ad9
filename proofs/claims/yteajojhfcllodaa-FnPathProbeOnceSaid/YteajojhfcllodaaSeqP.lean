/- A region that draws its order, walked once in an order of our choosing: operations that only look, and between them operations that turn the world, each of which comes up alone once those ahead of it in our order are done. -/
import Derived.Test.YteajojhfcllodaaChecked
import Derived.Below
import Derived.Deep.QuietTactic
import Derived.Deep.RegionWith
import Derived.StillTail
namespace Go.Proofs.Yteajojhfcllodaa

section
variable {P : Program} {ops : Array Oper} {md : Region.Mode}

/-- No way out but the plain one. -/
def NoExit : Exit → Act → World → Prop := fun _ _ _ => False
theorem wp_noexit {o : Oper} {a : Act} {w : World} {K K' : Act → World → Prop} {Q : Exit → Act → World → Prop} (h : ∀ a w, K a w → K' a w) (hh : o.wp P a w K NoExit) : o.wp P a w K' Q := by
  unfold Oper.wp at *
  generalize (execOp a.eval o).run P w = r at *
  cases r with
  | ok n w' =>
    cases n <;> simp only [Oper.upon] at hh ⊢ <;>
      first
        | exact h _ _ hh
        | exact Calls.mono hh (fun e w'' he => by
            cases e with
            | returned v => exact h _ _ he
            | panicked c => exact (he : False).elim
            | outgrown => exact (he.elim fun _ he => he.elim fun _ he => (he : False).elim))
        | exact Rows.mono hh (fun _ _ he => h _ _ he)
  | halt x w' =>
    cases x <;> simp only [Oper.upon] at hh ⊢
    exact (hh : False).elim

/-- An operation that may turn the world: from each world of the class C; behind it stands a class of its own. B: the wider class in which the operations that only look yield what they yield; it may only become narrower. -/
def Turns (P : Program) (o : Oper) (a : Act) (B C : World → Prop) (K : (World → Prop) → (World → Prop) → Act → Prop) : Prop :=
  ∀ w, C w → o.wp P a w (fun a' w' => ∃ B' C' : World → Prop, C' w' ∧ (∀ x, C' x → B' x) ∧ (∀ x, B' x → B x) ∧ K B' C' a') NoExit

/-- In every world of the class it yields v and leaves that world alone: no call. -/
def LooksAt (P : Program) (o : Oper) (a : Act) (C : World → Prop) (v : Value) : Prop :=
  ∀ w, C w → (execOp a.eval o).run P w = .ok (.value v) w ∨ ((execOp a.eval o).run P w = .ok .skip w ∧ v = undef)

def opC (P : Program) (ops : Array Oper) (B C : World → Prop) (i : Nat) (K : (World → Prop) → (World → Prop) → Act → Prop) (a : Act) : Prop :=
  match ops[i]? with
  | none => K B C a
  | some o => if Region.wanted o (yielded ops a.tmps) then (∃ v, LooksAt P o a B v ∧ K B C (a.put o.dst v)) ∨ Turns P o a B C K else K B C (a.put o.dst undef)

theorem Turns.mono {o : Oper} {a : Act} {B C : World → Prop} {K K' : (World → Prop) → (World → Prop) → Act → Prop} (h : ∀ B' C' a, (∀ x, B' x → B x) → (∀ x, C' x → B' x) → K B' C' a → K' B' C' a) (hh : Turns P o a B C K) : Turns P o a B C K' :=
  fun w hw => Oper.wp_mono (fun _ _ ⟨B', C', h1, h2, h3, h4⟩ => ⟨B', C', h1, h2, h3, h _ _ _ h3 h2 h4⟩) (hh w hw)
theorem opC_mono {B C : World → Prop} (hBC : ∀ x, C x → B x) {i : Nat} {a : Act} {K K' : (World → Prop) → (World → Prop) → Act → Prop} (h : ∀ B' C' a, (∀ x, B' x → B x) → (∀ x, C' x → B' x) → K B' C' a → K' B' C' a) (hh : opC P ops B C i K a) : opC P ops B C i K' a := by
  unfold opC at *
  split
  · exact h _ _ _ (fun _ hx => hx) hBC (by simpa [*] using hh)
  · rename_i o ho
    simp only [ho] at hh
    split
    · rename_i hw
      simp only [hw, if_true] at hh
      exact hh.imp (fun ⟨v, h1, h2⟩ => ⟨v, h1, h _ _ _ (fun _ hx => hx) hBC h2⟩) (Turns.mono h)
    · rename_i hw
      simp only [hw] at hh
      exact h _ _ _ (fun _ hx => hx) hBC hh

/-- Whatever order is picked from here on. -/
def anyC (P : Program) (md : Region.Mode) (ops : Array Oper) (Q : Act → World → Prop) : Nat → Array Bool → (World → Prop) → (World → Prop) → Act → Prop
  | 0, listed, _, C, a => Region.ready md ops listed = [] ∧ ∀ w, C w → Q a w
  | f + 1, listed, B, C, a => (Region.ready md ops listed = [] → ∀ w, C w → Q a w) ∧ ∀ i ∈ Region.ready md ops listed, opC P ops B C i (anyC P md ops Q f (listed.setIfInBounds i true)) a

theorem any_of_anyC {Q : Act → World → Prop} {Q' : Exit → Act → World → Prop} (hQ : ∀ a w, Q a w → Q' .normal a w) : ∀ (f : Nat) (listed : Array Bool) (B C : World → Prop) (a : Act) (w : World), (∀ x, C x → B x) → C w → anyC P md ops Q f listed B C a → wpAny P md ops Q' f listed a w
  | 0, _, _, _, _, _, _, hw, h => ⟨h.1, hQ _ _ (h.2 _ hw)⟩
  | f + 1, listed, B, C, a, w, hBC, hw, h => ⟨fun h0 => hQ _ _ (h.1 h0 _ hw), fun i hi => by
      have h1 := h.2 i hi
      unfold opC at h1
      unfold wpOp
      split
      · rename_i ho
        simp only [ho] at h1
        exact any_of_anyC hQ f _ _ _ _ _ hBC hw h1
      · rename_i o ho
        simp only [ho] at h1
        split
        · rename_i hwd
          simp only [hwd, if_true] at h1
          refine .inl ?_
          rcases h1 with ⟨v, hl, hk⟩ | ht
          · unfold Oper.wp
            rcases hl w (hBC w hw) with e | ⟨e, rfl⟩
            · rw [e]; exact any_of_anyC hQ f _ _ _ _ _ hBC hw hk
            · rw [e]; exact any_of_anyC hQ f _ _ _ _ _ hBC hw hk
          · exact wp_noexit (fun a' w' ⟨B', C', h2, h3, _, h4⟩ => any_of_anyC hQ f _ _ _ _ _ h3 h2 h4) (ht w hw)
        · rename_i hwd
          simp only [hwd] at h1
          exact any_of_anyC hQ f _ _ _ _ _ hBC hw h1⟩

/-- In state 'a' it leaves 'v' in its slot, in every world of the class. -/
def LeavesV (P : Program) (ops : Array Oper) (C : World → Prop) (o : Oper) (v : Value) (a : Act) : Prop :=
  (Region.wanted o (yielded ops a.tmps) = true ∧ LooksAt P o a C v) ∨ (Region.wanted o (yielded ops a.tmps) = false ∧ v = undef)
theorem LeavesV.of_same {C : World → Prop} {o : Oper} {v : Value} {a a' : Act} (hy : LeavesV P ops C o v a) (he : execOp a'.eval o = execOp a.eval o)
    (hw : Region.wanted o (yielded ops a'.tmps) = Region.wanted o (yielded ops a.tmps)) : LeavesV P ops C o v a' := by
  unfold LeavesV LooksAt at *
  rw [he, hw]
  exact hy
theorem LeavesV.sub {C C' : World → Prop} {o : Oper} {v : Value} {a : Act} (hs : ∀ x, C' x → C x) (hy : LeavesV P ops C o v a) : LeavesV P ops C' o v a :=
  hy.imp (fun ⟨h1, h2⟩ => ⟨h1, fun w hw => h2 w (hs w hw)⟩) id
theorem LeavesV.opC {B C : World → Prop} {i : Nat} {o : Oper} {v : Value} {a : Act} (hi : ops[i]? = some o) (hy : LeavesV P ops B o v a) {K : (World → Prop) → (World → Prop) → Act → Prop} (h : K B C (a.put o.dst v)) : opC P ops B C i K a := by
  unfold Go.Proofs.Yteajojhfcllodaa.opC
  simp only [hi]
  rcases hy with ⟨hw, hv⟩ | ⟨hw, rfl⟩
  · simp only [hw, if_true]; exact .inl ⟨v, hv, h⟩
  · simp only [hw, Bool.false_eq_true, if_false]; exact h

theorem opC_put {B C : World → Prop} {j : Nat} {oi oj : Oper} {v : Value} (hj : ops[j]? = some oj) (hap : oi.apart ops oj = true)
    (hsi : ∀ cs b, oi.op ≠ .select cs b) (hsj : ∀ cs b, oj.op ≠ .select cs b) {K : (World → Prop) → (World → Prop) → Act → Prop} {a : Act}
    (hy : LeavesV P ops B oi v a) (h : opC P ops B C j K (a.put oi.dst v)) :
    opC P ops B C j (fun B' C' a' => LeavesV P ops B' oi v a' ∧ K B' C' (a'.put oi.dst v)) a := by
  obtain ⟨h1, h2, h3⟩ := Oper.apart_spec hap
  have keep : ∀ (B' : World → Prop) (a : Act), LeavesV P ops B' oi v a → ∀ u, LeavesV P ops B' oi v (a.put oj.dst u) := fun B' a hy u =>
    hy.of_same (execOp_put oi hsi a oj.dst u h3) (wanted_put oi a oj.dst u h3)
  have keepD : ∀ (B' : World → Prop), LeavesV P ops B' oi v a → ∀ d, LeavesV P ops B' oi v { a with defers := d :: a.defers } := fun B' hy d => hy.of_same rfl rfl
  unfold opC at *
  simp only [hj] at *
  rw [wanted_put oj a oi.dst v h1] at h
  split
  · rename_i hw
    simp only [hw, if_true] at h
    rcases h with ⟨u, hu, hk⟩ | ht
    · refine .inl ⟨u, fun w hw' => ?_, keep _ a hy u, by rw [← Act.put_comm a v u h2]; exact hk⟩
      have := hu w hw'
      rwa [execOp_put oj hsj a oi.dst v h1] at this
    · refine .inr fun w hw' => ?_
      have h := ht w hw'
      unfold Oper.wp at *
      rw [execOp_put oj hsj a oi.dst v h1] at h
      generalize (execOp a.eval oj).run P w = r at *
      cases r with
      | ok n w' =>
        cases n <;> simp only [Oper.upon] at h ⊢
        case value u =>
          obtain ⟨B', C', c1, c2, c3, c4⟩ := h
          exact ⟨B', C', c1, c2, c3, keep _ a (hy.sub c3) u, by rw [← Act.put_comm a v u h2]; exact c4⟩
        case skip =>
          obtain ⟨B', C', c1, c2, c3, c4⟩ := h
          exact ⟨B', C', c1, c2, c3, keep _ a (hy.sub c3) _, by rw [← Act.put_comm a v undef h2]; exact c4⟩
        case defer d =>
          obtain ⟨B', C', c1, c2, c3, c4⟩ := h
          refine ⟨B', C', c1, c2, c3, keep _ _ (keepD _ (hy.sub c3) d) _, ?_⟩
          rw [← Act.put_comm _ v undef h2, ← Act.put_defers]
          exact c4
        case enter f args =>
          refine Calls.mono h fun e w'' he => ?_
          cases e with
          | returned u =>
            obtain ⟨B', C', c1, c2, c3, c4⟩ := he
            exact ⟨B', C', c1, c2, c3, keep _ a (hy.sub c3) u, by rw [← Act.put_comm a v u h2]; exact c4⟩
          | panicked c => exact he
          | outgrown => exact (he.elim fun _ he => he.elim fun _ he => (he : False).elim)
        case row row args =>
          exact Rows.mono h fun u w'' he => by
            obtain ⟨B', C', c1, c2, c3, c4⟩ := he
            exact ⟨B', C', c1, c2, c3, keep _ a (hy.sub c3) u, by rw [← Act.put_comm a v u h2]; exact c4⟩
      | halt x w' =>
        cases x <;> simp only [Oper.upon] at h ⊢
        exact h
  · rename_i hw
    simp only [hw] at h
    exact ⟨keep _ a hy _, by rw [← Act.put_comm a v undef h2]; exact h⟩

theorem anyC_first {Q : Act → World → Prop} {i : Nat} {oi : Oper} {v : Value} (hi : ops[i]? = some oi) (hsel : ∀ (j : Nat) (o : Oper) cs b, ops[j]? = some o → o.op ≠ .select cs b) :
    ∀ (f : Nat) (listed : Array Bool) (B C : World → Prop) (a : Act), (∀ x, C x → B x) →
      (∀ j oj, ops[j]? = some oj → j ≠ i → listed.getD j true = false → (∀ e ∈ oj.after, Region.binds md e = true → e.on ≠ i) → oi.apart ops oj = true) →
      i ∈ Region.ready md ops listed → LeavesV P ops B oi v a →
      anyC P md ops Q f (listed.setIfInBounds i true) B C (a.put oi.dst v) → anyC P md ops Q (f + 1) listed B C a := by
  intro f
  induction f with
  | zero =>
    intro listed B C a _ _ hr hy H
    refine ⟨fun h => (by rw [h] at hr; cases hr), fun j hj => ?_⟩
    by_cases hji : j = i
    · subst hji; exact hy.opC hi H
    · have := ready_mono hj hji
      rw [H.1] at this
      cases this
  | succ f ih =>
    intro listed B C a hBC hfree hr hy H
    refine ⟨fun h => (by rw [h] at hr; cases hr), fun j hj => ?_⟩
    by_cases hji : j = i
    · subst hji; exact hy.opC hi H
    · have h1 := H.2 j (ready_mono hj hji)
      obtain ⟨hjun, oj, hoj, hall⟩ := mem_ready.1 hj
      have hnot : ∀ e ∈ oj.after, Region.binds md e = true → e.on ≠ i := fun e he hb heq => by
        have h1 := hall e he hb
        have h0 := (mem_ready.1 hr).1
        rw [heq] at h1
        rcases Nat.lt_or_ge i listed.size with h' | h'
        · simp [h'] at h0 h1; rw [h0] at h1; cases h1
        · simp [Array.getElem?_eq_none h'] at h1
      have h2 := opC_put hoj (hfree j oj hoj hji hjun hnot) (fun cs b => hsel i oi cs b hi) (fun cs b => hsel j oj cs b hoj) hy h1
      have hfree' : ∀ k ok, ops[k]? = some ok → k ≠ i → (listed.setIfInBounds j true).getD k true = false →
          (∀ e ∈ ok.after, Region.binds md e = true → e.on ≠ i) → oi.apart ops ok = true := fun k ok hk hki hun hno => by
        refine hfree k ok hk hki ?_ hno
        by_cases hjk : j = k
        · subst hjk; exact hjun
        · rw [getD_set_ne true hjk] at hun; exact hun
      refine opC_mono hBC (fun B' C' a' _ hBC' h3 => ih (listed.setIfInBounds j true) B' C' a' hBC' hfree' (ready_mono hr (Ne.symm hji)) h3.1 ?_) h2
      rw [Array.setIfInBounds_comm _ _ hji]
      exact h3.2

/-! Our order -/

/-- Kinds of operation that enter no function. -/
def plainB (o : Oper) : Bool :=
  match o.op with
  | .move _ | .assign _ | .pick .. | .build .. | .load .. | .binOp .. | .unOp .. | .slice .. | .fieldAddr .. | .field .. | .indexAddr .. | .index .. | .extract .. | .convert .. => true
  | _ => false
theorem run_value_not {s : Sem Value} {w w' : World} {f : FuncId} {args : Array Value} : ((do pure (Next.value (← s)) : Sem Next)).run P w ≠ .ok (.enter f args) w' := by
  rw [Sem.run_bind]
  cases s.run P w with
  | ok v w1 =>
    intro h
    simp [Result.andThen] at h
  | halt x w1 =>
    intro h
    simp [Result.andThen] at h
theorem plain_not {o : Oper} (h : plainB o = true) {ρ : Operand → Value} {w w' : World} {f : FuncId} {args : Array Value} : (execOp ρ o).run P w ≠ .ok (.enter f args) w' := by
  obtain ⟨dst, op, type, pos, after, guard⟩ := o
  unfold plainB at h
  unfold execOp
  cases op <;> first | exact run_value_not | (simp at h; done) | skip
  all_goals
    intro e
    first
    | (simp at e; done)
    | (rw [Sem.run_bind] at e
       generalize (asBool _).run P w = r at e
       cases r <;> simp [Result.andThen] at e)
theorem looks_of_quiet {o : Oper} (h : plainB o = true) {a : Act} {C : World → Prop} {v : Value} (hq : ∀ w, C w → o.quietAt P a C w v) : LooksAt P o a C v := fun w hw => by
  have h1 := hq w hw
  have h2 := fun f args w' => plain_not (P := P) (ρ := a.eval) (w := w) (w' := w') (f := f) (args := args) h
  unfold Oper.quietAt at h1
  generalize (execOp a.eval o).run P w = r at *
  cases r with
  | ok n w' =>
    cases n <;> simp only [Oper.quietUpon] at h1
    case value u => obtain ⟨e1, e2⟩ := h1; rw [e1, e2]; exact .inl rfl
    case skip => obtain ⟨e1, e2⟩ := h1; rw [e1]; exact .inr ⟨rfl, e2⟩
    case enter f args => exact absurd rfl (h2 f args w')
  | halt x w' => simp only [Oper.quietUpon] at h1

/-- The worlds of a class, as letters. -/
structure In (C : World → Prop) where
  w : World
  h : C w
theorem cls_eq {C : World → Prop} : (fun w' => ∃ x : In C, w' = x.w) = C := funext fun w => propext ⟨fun ⟨x, e⟩ => e ▸ x.h, fun h => ⟨⟨w, h⟩, rfl⟩⟩
/-- The operations at these places. -/
def opsAt (l : List Oper) (s : List Nat) : List Oper := s.filterMap (l[·]?)
/-- The walk: stretches of operations that only look, each followed by one that may turn the world. -/
def Seq (P : Program) (l : List Oper) (Q : Act → World → Prop) (t : List Nat) : List (List Nat × Nat) → (World → Prop) → (World → Prop) → Act → Prop
  | [], B, C, a => wpQuiet P l.toArray (fun w' => ∃ x : In B, w' = x.w) (fun a' => ∀ w, C w → Q a' w) (opsAt l t) a
  | (s, c) :: rest, B, C, a => wpQuiet P l.toArray (fun w' => ∃ x : In B, w' = x.w) (fun a' => ∃ o, l[c]? = some o ∧ o.guard = none ∧ Turns P o a' B C (Seq P l Q t rest)) (opsAt l s) a
/-- May these operations be taken first, one after the other? -/
def firstB (md : Region.Mode) (l : List Oper) (listed : Array Bool) : List Nat → Bool × Array Bool
  | [] => (true, listed)
  | i :: s => match firstB md l (listed.setIfInBounds i true) s with
    | (b, k) => ((Region.ready md l.toArray listed).contains i && Region.free md l.toArray listed i && ((l[i]?).map plainB).getD false && b, k)
def seqOk (md : Region.Mode) (l : List Oper) (t : List Nat) : List (List Nat × Nat) → Array Bool → Bool
  | [], listed => match firstB md l listed t with
    | (b, k) => b && (Region.ready md l.toArray k).isEmpty
  | (s, c) :: rest, listed => match firstB md l listed s with
    | (b, k) => b && (Region.ready md l.toArray k == [c]) && seqOk md l t rest (k.setIfInBounds c true)

theorem first_lex {l : List Oper} {Q : Act → World → Prop} (hsel : Region.noSelect l.toArray = true) {B C : World → Prop} (hBC : ∀ x, C x → B x) {K : Act → Prop} {g : Nat} :
    ∀ (s : List Nat) (listed : Array Bool) (a : Act), (firstB md l listed s).1 = true →
      (∀ a', K a' → anyC P md l.toArray Q g (firstB md l listed s).2 B C a') → wpQuiet P l.toArray B K (opsAt l s) a → anyC P md l.toArray Q (s.length + g) listed B C a
  | [], listed, a, _, hK, h => by
    rw [List.length_nil, Nat.zero_add]
    exact hK a h
  | i :: s, listed, a, hB, hK, h => by
    have hB' := hB
    unfold firstB at hB hK
    dsimp only at hB hK
    simp only [Bool.and_eq_true] at hB
    obtain ⟨⟨⟨h1, h2⟩, h3⟩, h4⟩ := hB
    cases ho : l[i]? with
    | none => rw [ho] at h3; cases h3
    | some o =>
      rw [ho] at h3
      have hoa : l.toArray[i]? = some o := by simpa using ho
      have e : opsAt l (i :: s) = o :: opsAt l s := by unfold opsAt; rw [List.filterMap_cons]; simp [ho]
      rw [e] at h
      rw [List.length_cons, Nat.succ_add]
      have hlex : ∃ v, LeavesV P l.toArray B o v a ∧ wpQuiet P l.toArray B K (opsAt l s) (a.put o.dst v) := by
        change (if Region.wanted o (yielded l.toArray a.tmps) then o.quiet P a B (wpQuiet P l.toArray B K (opsAt l s)) else wpQuiet P l.toArray B K (opsAt l s) (a.put o.dst undef)) at h
        by_cases hw : Region.wanted o (yielded l.toArray a.tmps) = true
        · rw [if_pos hw] at h
          obtain ⟨v, hv, hk⟩ := h
          exact ⟨v, .inl ⟨hw, looks_of_quiet (by simpa using h3) hv⟩, hk⟩
        · rw [if_neg hw] at h
          exact ⟨undef, .inr ⟨by simpa using hw, rfl⟩, h⟩
      obtain ⟨v, hv, hk⟩ := hlex
      exact anyC_first hoa (Region.noSelect_spec hsel) _ listed B C a hBC (Region.free_spec hoa h2) (by simpa using h1) hv
        (first_lex hsel hBC s (listed.setIfInBounds i true) _ h4 hK hk)

def seqLen (t : List Nat) : List (List Nat × Nat) → Nat
  | [] => t.length
  | (s, _) :: rest => s.length + (seqLen t rest + 1)
theorem seq_any {l : List Oper} {Q : Act → World → Prop} {t : List Nat} (hsel : Region.noSelect l.toArray = true) :
    ∀ (segs : List (List Nat × Nat)) (listed : Array Bool) (B C : World → Prop) (a : Act), (∀ x, C x → B x) → seqOk md l t segs listed = true → Seq P l Q t segs B C a → anyC P md l.toArray Q (seqLen t segs) listed B C a
  | [], listed, B, C, a, hBC, hB, h => by
    unfold seqOk at hB
    dsimp only at hB
    simp only [Bool.and_eq_true, List.isEmpty_iff] at hB
    unfold Seq at h
    rw [cls_eq] at h
    exact first_lex (g := 0) hsel hBC t listed a hB.1 (fun a' hk => ⟨hB.2, hk⟩) h
  | (s, c) :: rest, listed, B, C, a, hBC, hB, h => by
    unfold seqOk at hB
    dsimp only at hB
    simp only [Bool.and_eq_true, beq_iff_eq] at hB
    obtain ⟨⟨h1, h2⟩, h3⟩ := hB
    unfold Seq at h
    rw [cls_eq] at h
    refine first_lex (g := seqLen t rest + 1) hsel hBC s listed a h1 (fun a' ⟨o, ho, hg, ht⟩ => ?_) h
    refine ⟨fun h0 => (by rw [h2] at h0; cases h0), fun i hi => ?_⟩
    rw [h2] at hi
    obtain rfl : i = c := by simpa using hi
    unfold opC
    have hoa : l.toArray[i]? = some o := by simpa using ho
    simp only [hoa]
    have hw : Region.wanted o (yielded l.toArray a'.tmps) = true := by unfold Region.wanted; rw [hg]
    simp only [hw, if_true]
    exact .inr (Turns.mono (fun B' C' a'' _ hBC' hk => seq_any hsel rest _ B' C' a'' hBC' h3 hk) ht)
end

/-- The rule. -/
theorem wp_region_seq {P : Program} {l : List Oper} {id : Nat} {Q : Exit → Act → World → Prop} {a : Act} {W : World} (B C : World → Prop) (segs : List (List Nat × Nat)) (t : List Nat)
    (hm : P.follows .mixedOrders = true) (hB : (Region.noSelect l.toArray && seqOk .any l t segs (Array.replicate l.length false) && (seqLen t segs == l.length)) = true) (hBC : ∀ x, C x → B x) (hC : ∀ n, C { W with drawn := n })
    (h : Seq P l (fun a' w' => Q .normal a' w') t segs B C a) : (Code.region id l.toArray true).wp P Q a W := by
  simp only [Bool.and_eq_true, beq_iff_eq] at hB
  obtain ⟨⟨h1, h2⟩, h3⟩ := hB
  refine wp_region_any hm ?_
  have := any_of_anyC (Q' := Q) (fun _ _ hq => hq) _ _ B C a _ hBC (hC (W.drawn + 1)) (seq_any h1 segs _ B C a hBC h2 h)
  rw [h3] at this
  simpa using this

/-- One class for both. -/
theorem wp_region_cls {P : Program} {l : List Oper} {id : Nat} {Q : Exit → Act → World → Prop} {a : Act} {W : World} (C : World → Prop) (segs : List (List Nat × Nat)) (t : List Nat)
    (hm : P.follows .mixedOrders = true) (hB : (Region.noSelect l.toArray && seqOk .any l t segs (Array.replicate l.length false) && (seqLen t segs == l.length)) = true) (hC : ∀ n, C { W with drawn := n })
    (h : Seq P l (fun a' w' => Q .normal a' w') t segs C C a) : (Code.region id l.toArray true).wp P Q a W := wp_region_seq C C segs t hm hB (fun _ hx => hx) hC h
theorem turns_step {P : Program} {o : Oper} {a : Act} {C : World → Prop} {K : (World → Prop) → (World → Prop) → Act → Prop}
    (h : ∀ Z : Act → World → Prop, (∀ (C' : World → Prop) a' w', C' w' → (∀ x, C' x → C x) → K C' C' a' → Z a' w') → ∀ w, C w → o.wp P a w Z NoExit) : Turns P o a C C K :=
  fun w hw => h _ (fun C' _ _ h1 h2 h3 => ⟨C', C', h1, fun _ hx => hx, h2, h3⟩) w hw
theorem turns_step2 {P : Program} {o : Oper} {a : Act} {B C : World → Prop} {K : (World → Prop) → (World → Prop) → Act → Prop}
    (h : ∀ Z : Act → World → Prop, (∀ (B' C' : World → Prop) a' w', C' w' → (∀ x, C' x → B' x) → (∀ x, B' x → B x) → K B' C' a' → Z a' w') → ∀ w, C w → o.wp P a w Z NoExit) : Turns P o a B C K :=
  fun w hw => h _ (fun B' C' _ _ h1 h2 h3 h4 => ⟨B', C', h1, h2, h3, h4⟩) w hw
theorem seq_last {C : World → Prop} {Q : Act → World → Prop} {a : Act} (h : ∀ w, C w → Q a w) : ∀ w, C w → Q a w := h

end Go.Proofs.Yteajojhfcllodaa
