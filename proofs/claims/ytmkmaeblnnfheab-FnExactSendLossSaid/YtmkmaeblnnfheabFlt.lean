/- A region that draws its order and some of whose allocations wait for nothing: they may come at any time. The walk passes them over; behind what stands ahead of them all they lie in blocks of their own, wherever. -/
import Derived.Test.YtmkmaeblnnfheabSeq
namespace Go.Proofs.Ytmkmaeblnnfheab
open Go.RowKit

/-- An allocation that waits for nothing: its place, its slot, the new block, what is known of that block. -/
structure Flt where
  idx : Nat
  dst : Tmp
  obj : Obj
  ok : World → Nat → Prop
def flAct (a : Act) : List (Flt × Nat) → Act
  | [] => a
  | (m, b) :: D => (flAct a D).put (some m.dst) (.pointer (some ⟨b, 0, none⟩))
def flList (listed : Array Bool) : List (Flt × Nat) → Array Bool
  | [] => listed
  | (m, _) :: D => (flList listed D).setIfInBounds m.idx true
/-- A world of the class in which the new blocks stand, each its own, none among the blocks that a call has made (G). -/
def flCls (C : World → Prop) (base : Nat) (G : List (Nat × Nat)) (D : List (Flt × Nat)) (w : World) : Prop :=
  C w ∧ (D.map (·.2)).Nodup ∧ ∀ p, p ∈ D → base ≤ p.2 ∧ p.2 < w.heap.size ∧ p.1.ok w p.2 ∧ ∀ g, g ∈ G → p.2 < g.1 ∨ g.2 ≤ p.2
/-- New blocks lead to no other class, and the class lies above what was made. -/
def Grows (base : Nat) (G : List (Nat × Nat)) (C : World → Prop) : Prop := ∀ w, C w → base ≤ w.heap.size ∧ (∀ g, g ∈ G → g.2 ≤ w.heap.size) ∧ ∀ o, C (w.alloc o)
theorem grows_below (W : World) : Grows W.heap.size [] (Below W.heap.size W) := fun _ h => ⟨h.size, fun _ hg => (by cases hg), fun o => h.alloc h.size o⟩

section
variable {P : Program} {l : List Oper} {md : Region.Mode} {base : Nat} {fl : List Flt}

def TurnsB (P : Program) (o : Oper) (a : Act) (C : World → Prop) (K : Nat × Nat → (World → Prop) → Act → Prop) : Prop :=
  ∀ w, C w → o.wp P a w (fun a' w' => Below w.heap.size w w' ∧ ∃ C' : World → Prop, C' w' ∧ (∀ x, C' x → C x) ∧ K (w.heap.size, w'.heap.size) C' a') NoExit

/-- The walk, step by step. -/
def WalkF (P : Program) (l : List Oper) (base : Nat) (E : List (Nat × Nat) → (World → Prop) → Act → Prop) : List (Bool × Nat) → List (Nat × Nat) → (World → Prop) → Act → Prop
  | [], G, C, a => E G C a
  | (false, i) :: r, G, C, a => ∃ o v, l[i]? = some o ∧ LeavesV P l.toArray C o v a ∧ WalkF P l base E r G C (a.put o.dst v)
  | (true, c) :: r, G, C, a => ∃ o, l[c]? = some o ∧ o.guard = none ∧ TurnsB P o a C (fun g C' a' => Grows base (g :: G) C' ∧ WalkF P l base E r (g :: G) C' a')

def waitsB (md : Region.Mode) (o : Oper) (k : Nat) : Bool := o.after.any fun e => Region.binds md e && e.on == k
theorem waits_not {o : Oper} {k : Nat} (h : waitsB md o k = true) {listed : Array Bool} (hk : listed.getD k false = false) (hall : ∀ e ∈ o.after, Region.binds md e = true → listed.getD e.on false = true) : False := by
  unfold waitsB at h
  obtain ⟨e, he, hb⟩ := Array.any_eq_true'.1 h
  simp only [Bool.and_eq_true, beq_iff_eq] at hb
  have := hall e he hb.1
  rw [hb.2, hk] at this
  cases this

/-- Every other operation that is not listed, an allocation of ours apart, waits for one that is not listed either and is none of ours. -/
def blockedB (md : Region.Mode) (l : List Oper) (fs : List Nat) (listed : Array Bool) (c : Option Nat) (last : Bool) : Bool :=
  (List.range l.length).all fun j => c == some j || listed.getD j true || fs.contains j || match l[j]? with
    | some o => ((List.range l.length).any fun k => !listed.getD k true && !fs.contains k && waitsB md o k) || (last && fs.all fun k => waitsB md o k)
    | none => true
def stepB (md : Region.Mode) (l : List Oper) (fs : List Nat) (listed : Array Bool) : Bool × Nat → Bool
  | (false, i) => (Region.ready md l.toArray listed).contains i && Region.free md l.toArray listed i && !fs.contains i
  | (true, c) => (Region.ready md l.toArray listed).contains c && blockedB md l fs listed (some c) false && !fs.contains c && fs.all fun m => match l[m]?, l[c]? with
      | some om, some oc => oc.apart l.toArray om
      | _, _ => false
def stepsB (md : Region.Mode) (l : List Oper) (fs : List Nat) : List (Bool × Nat) → Array Bool → Bool × Array Bool
  | [], listed => (blockedB md l fs listed none true && fs.all (fun m => !listed.getD m true), listed)
  | s :: r, listed => match stepsB md l fs r (listed.setIfInBounds s.2 true) with
    | (b, k) => (stepB md l fs listed s && fs.all (fun m => !listed.getD m true) && b, k)

theorem flList_not {listed : Array Bool} {k : Nat} {x : Bool} : ∀ {D : List (Flt × Nat)}, (∀ p, p ∈ D → p.1.idx ≠ k) → (flList listed D).getD k x = listed.getD k x
  | [], _ => rfl
  | (m, b) :: D, h => by
    unfold flList
    rw [getD_set_ne x (h _ List.mem_cons_self)]
    exact flList_not fun p hp => h p (List.mem_cons_of_mem _ hp)
theorem flList_un {listed : Array Bool} {k : Nat} : ∀ {D : List (Flt × Nat)}, (flList listed D).getD k true = false → listed.getD k true = false
  | [], h => h
  | (m, b) :: D, h => by
    unfold flList at h
    by_cases e : m.idx = k
    · subst e
      rcases Nat.lt_or_ge m.idx (flList listed D).size with h' | h'
      · simp [h'] at h
      · simp at h
    · rw [getD_set_ne true e] at h
      exact flList_un h
theorem flList_ready {listed : Array Bool} {i : Nat} : ∀ {D : List (Flt × Nat)}, (∀ p, p ∈ D → p.1.idx ≠ i) → i ∈ Region.ready md l.toArray listed → i ∈ Region.ready md l.toArray (flList listed D)
  | [], _, h => h
  | _ :: _, hn, h => ready_mono (flList_ready (fun p hp => hn p (List.mem_cons_of_mem _ hp)) h) (fun e => hn _ List.mem_cons_self e.symm)
theorem flList_set {listed : Array Bool} {i : Nat} : ∀ {D : List (Flt × Nat)}, (∀ p, p ∈ D → p.1.idx ≠ i) → (flList listed D).setIfInBounds i true = flList (listed.setIfInBounds i true) D
  | [], _ => rfl
  | (m, b) :: D, h => by
    unfold flList
    rw [Array.setIfInBounds_comm _ _ (h _ List.mem_cons_self), flList_set fun p hp => h p (List.mem_cons_of_mem _ hp)]
theorem flAct_exec {a : Act} {o : Oper} (hs : ∀ cs b, o.op ≠ .select cs b) : ∀ {D : List (Flt × Nat)}, (∀ p, p ∈ D → p.1.dst ∉ o.looksAt l.toArray) → execOp (flAct a D).eval o = execOp a.eval o ∧ Region.wanted o (yielded l.toArray (flAct a D).tmps) = Region.wanted o (yielded l.toArray a.tmps)
  | [], _ => ⟨rfl, rfl⟩
  | (m, b) :: D, h => by
    unfold flAct
    have h0 : ∀ d, some m.dst = some d → d ∉ o.looksAt l.toArray := fun d e => by cases e; exact h _ List.mem_cons_self
    rw [execOp_put (ops := l.toArray) o hs _ _ _ h0, wanted_put (ops := l.toArray) o _ _ _ h0]
    exact flAct_exec hs fun p hp => h p (List.mem_cons_of_mem _ hp)
theorem flAct_put {a : Act} {d : Option Tmp} {v : Value} : ∀ {D : List (Flt × Nat)}, (∀ p, p ∈ D → d ≠ some p.1.dst) → (flAct a D).put d v = flAct (a.put d v) D
  | [], _ => rfl
  | (m, b) :: D, h => by
    unfold flAct
    rw [Act.put_comm _ _ _ (fun e he => by cases he; exact h _ List.mem_cons_self), flAct_put fun p hp => h p (List.mem_cons_of_mem _ hp)]
theorem wp_put {o : Oper} {a : Act} {w : World} {d : Tmp} {v : Value} {K : Act → World → Prop} (hs : ∀ cs b, o.op ≠ .select cs b) (h1 : d ∉ o.looksAt l.toArray) (h2 : o.dst ≠ some d) (h : o.wp P a w K NoExit) :
    o.wp P (a.put (some d) v) w (fun a' w' => ∃ a0, a' = a0.put (some d) v ∧ K a0 w') NoExit := by
  unfold Oper.wp at *
  rw [execOp_put (ops := l.toArray) o hs a _ _ (fun x e => by cases e; exact h1)]
  have hc : ∀ (a : Act) u, (a.put (some d) v).put o.dst u = (a.put o.dst u).put (some d) v := fun a u => Act.put_comm a v u fun x e => by cases e; exact h2
  generalize (execOp a.eval o).run P w = r at *
  cases r with
  | ok n w' =>
    cases n <;> simp only [Oper.upon] at h ⊢
    case value u => exact ⟨_, hc a u, h⟩
    case skip => exact ⟨_, hc a _, h⟩
    case defer x => exact ⟨_, by rw [Act.put_defers]; exact hc _ _, h⟩
    case enter f args =>
      refine Calls.mono h fun e w'' he => ?_
      cases e with
      | returned u => exact ⟨_, hc a u, he⟩
      | panicked c => exact he
      | outgrown => exact (he.elim fun _ he => he.elim fun _ he => (he : False).elim)
    case row row args => exact Rows.mono h fun u w'' he => ⟨_, hc a u, he⟩
  | halt x w' =>
    cases x <;> simp only [Oper.upon] at h ⊢
    exact h
theorem wp_flAct {o : Oper} {a : Act} {w : World} {K : Act → World → Prop} (hs : ∀ cs b, o.op ≠ .select cs b) (h : o.wp P a w K NoExit) :
    ∀ {D : List (Flt × Nat)}, (∀ p, p ∈ D → p.1.dst ∉ o.looksAt l.toArray ∧ o.dst ≠ some p.1.dst) → o.wp P (flAct a D) w (fun a' w' => ∃ a0, a' = flAct a0 D ∧ K a0 w') NoExit
  | [], _ => Oper.wp_mono (fun a' w' hk => ⟨a', rfl, hk⟩) h
  | (m, b) :: D, hd => by
    have h1 := wp_flAct hs h (D := D) fun p hp => hd p (List.mem_cons_of_mem _ hp)
    obtain ⟨h2, h3⟩ := hd _ List.mem_cons_self
    exact Oper.wp_mono (fun a' w' ⟨a0, e0, a1, e1, hk⟩ => ⟨a1, by rw [e0, e1]; rfl, hk⟩) (wp_put (v := .pointer (some ⟨b, 0, none⟩)) hs h2 h3 h1)

/-- What is known of our allocations. -/
structure Floats (P : Program) (l : List Oper) (md : Region.Mode) (fl : List Flt) : Prop where
  nodup : (fl.map (·.idx)).Nodup
  op : ∀ m, m ∈ fl → ∃ o, l[m.idx]? = some o ∧ o.dst = some m.dst ∧ o.guard = none ∧ (∀ e ∈ o.after, Region.binds md e = true → False) ∧ ∀ (a : Act) (w : World), (execOp a.eval o).run P w = .ok (.value (.pointer (some ⟨w.heap.size, 0, none⟩))) (w.alloc m.obj)
  fresh : ∀ m, m ∈ fl → ∀ w : World, m.ok (w.alloc m.obj) w.heap.size
  keep : ∀ m, m ∈ fl → ∀ (w w' : World) (b : Nat), b < w.heap.size → w'.heap[b]? = w.heap[b]? → m.ok w b → m.ok w' b

theorem flt_any {Q : Act → World → Prop} {E : List (Nat × Nat) → (World → Prop) → Act → Prop} {g : Nat} {Lend : Array Bool} (hF : Floats P l md fl) (hsel : Region.noSelect l.toArray = true)
    (hE : ∀ G C a D, (D.map (·.1)).Perm fl → (∃ w, flCls C base G D w) → E G C a → anyC P md l.toArray Q g (flList Lend D) (flCls C base G D) (flAct a D)) :
    ∀ (f : Nat) (steps : List (Bool × Nat)) (U : List Flt) (D : List (Flt × Nat)) (G : List (Nat × Nat)) (C : World → Prop) (a : Act) (listed : Array Bool), f = steps.length + U.length → (U ++ D.map (·.1)).Perm fl →
      stepsB md l (fl.map (·.idx)) steps listed = (true, Lend) → Grows base G C → (∃ w, flCls C base G D w) → WalkF P l base E steps G C a →
      anyC P md l.toArray Q (f + g) (flList listed D) (flCls C base G D) (flAct a D) := by
  have hsl := Region.noSelect_spec hsel
  intro f
  induction f with
  | zero =>
    intro steps U D G C a listed hf hp hB hG hne hW
    obtain rfl : steps = [] := List.eq_nil_of_length_eq_zero (by omega)
    obtain rfl : U = [] := List.eq_nil_of_length_eq_zero (by omega)
    unfold stepsB at hB
    obtain rfl : listed = Lend := (Prod.mk.inj hB).2
    rw [Nat.zero_add]
    exact hE G C a D (by simpa using hp) hne hW
  | succ f ih =>
    intro steps U D G C a listed hf hp hB hG hne hW
    have hmem : ∀ m, m ∈ fl ↔ m ∈ U ∨ m ∈ D.map (·.1) := fun m => by rw [← hp.mem_iff, List.mem_append]
    have hnd : ((U ++ D.map (·.1)).map (·.idx)).Nodup := (hp.map _).nodup_iff.2 hF.nodup
    have hDU : ∀ m, m ∈ U → ∀ p, p ∈ D → p.1.idx ≠ m.idx := fun m hm p hp' e => by
      rw [List.map_append, List.nodup_append] at hnd
      exact hnd.2.2 m.idx (List.mem_map.2 ⟨m, hm, rfl⟩) p.1.idx (List.mem_map.2 ⟨p.1, List.mem_map.2 ⟨p, hp', rfl⟩, rfl⟩) e.symm
    have hDf : ∀ p, p ∈ D → p.1 ∈ fl := fun p hp' => (hmem _).2 (.inr (List.mem_map.2 ⟨p, hp', rfl⟩))
    have hidx : ∀ p, p ∈ D → ∀ k, (fl.map (·.idx)).contains k = false → p.1.idx ≠ k := fun p hp' k hk e => by
      have : (fl.map (·.idx)).contains k = true := by rw [List.contains_iff_mem]; exact List.mem_map.2 ⟨p.1, hDf p hp', e⟩
      rw [hk] at this; cases this
    -- an allocation of ours comes up
    have float : ∀ m, m ∈ U → opC P l.toArray (flCls C base G D) m.idx (anyC P md l.toArray Q (f + g) ((flList listed D).setIfInBounds m.idx true)) (flAct a D) := fun m hm => by
      obtain ⟨o, ho, hd, hg, _, hrun⟩ := hF.op m ((hmem m).2 (.inl hm))
      have hoa : l.toArray[m.idx]? = some o := by simpa using ho
      unfold opC
      simp only [hoa]
      have hw : Region.wanted o (yielded l.toArray (flAct a D).tmps) = true := by unfold Region.wanted; rw [hg]
      simp only [hw, if_true]
      refine .inr fun w hw => ?_
      unfold Oper.wp
      rw [hrun]
      show ∃ C', _
      obtain ⟨hC, hn, hD⟩ := hw
      obtain ⟨hb, hgs, hal⟩ := hG w hC
      have hlt : ∀ p, p ∈ D → p.2 < w.heap.size := fun p hp' => (hD p hp').2.1
      have hm0 := hm
      obtain ⟨U1, U2, rfl⟩ := List.append_of_mem hm
      have hin : flCls C base G ((m, w.heap.size) :: D) (w.alloc m.obj) := by
        refine ⟨hal _, ?_, ?_⟩
        · rw [List.map_cons, List.nodup_cons]
          refine ⟨fun hc => ?_, hn⟩
          obtain ⟨p, hp', e⟩ := List.mem_map.1 hc
          have := hlt p hp'
          omega
        · intro p hp'
          rcases List.mem_cons.1 hp' with rfl | hp'
          · exact ⟨hb, by simp, hF.fresh m ((hmem m).2 (.inl hm0)) w, fun g hg => .inr (hgs g hg)⟩
          · exact ⟨(hD p hp').1, by have := hlt p hp'; simp; omega, hF.keep _ (hDf p hp') w _ _ (hlt p hp') (Below.heap_alloc w _ _ (hlt p hp')) (hD p hp').2.2.1, (hD p hp').2.2.2⟩
      refine ⟨flCls C base G ((m, w.heap.size) :: D), hin, ?_, ?_⟩
      · rintro x ⟨x1, x2, x3⟩
        rw [List.map_cons, List.nodup_cons] at x2
        exact ⟨x1, x2.2, fun p hp' => x3 p (List.mem_cons_of_mem _ hp')⟩
      · rw [hd]
        refine ih steps (U1 ++ U2) ((m, w.heap.size) :: D) G C a listed (by simp at hf ⊢; omega) (List.Perm.trans ?_ hp) hB hG ⟨_, hin⟩ hW
        rw [List.map_cons, List.append_assoc, List.append_assoc]
        refine List.Perm.append_left _ ?_
        rw [List.cons_append]
        exact List.perm_middle
    have undone : ∀ m, m ∈ U → (fl.map (·.idx)).all (fun m => !listed.getD m true) = true → (flList listed D).getD m.idx true = false := fun m hm hall => by
      rw [flList_not fun p hp' => hDU m hm p hp']
      have := List.all_eq_true.1 hall m.idx (List.mem_map.2 ⟨m, (hmem m).2 (.inl hm), rfl⟩)
      simpa using this
    have uready : ∀ m, m ∈ U → (fl.map (·.idx)).all (fun m => !listed.getD m true) = true → m.idx ∈ Region.ready md l.toArray (flList listed D) := fun m hm hall => by
      obtain ⟨o, ho, _, _, ha, _⟩ := hF.op m ((hmem m).2 (.inl hm))
      exact mem_ready.2 ⟨undone m hm hall, o, by simpa using ho, fun e he hb => (ha e he hb).elim⟩
    -- who may come up
    have who : ∀ (c : Option Nat) (last : Bool), blockedB md l (fl.map (·.idx)) listed c last = true → (last = true → U ≠ []) → (fl.map (·.idx)).all (fun m => !listed.getD m true) = true →
        ∀ j, j ∈ Region.ready md l.toArray (flList listed D) → c = some j ∨ ∃ m, m ∈ U ∧ m.idx = j := fun c last hb hl hall j hj => by
      obtain ⟨hun, o, ho, hready⟩ := mem_ready.1 hj
      have ho' : l[j]? = some o := by simpa using ho
      have hjl : j < l.length := (List.getElem?_eq_some_iff.1 ho').1
      have h1 := List.all_eq_true.1 hb j (List.mem_range.2 hjl)
      simp only [Bool.or_eq_true, beq_iff_eq, flList_un hun, Bool.false_eq_true, or_false, ho', Bool.and_eq_true] at h1
      rcases h1 with (h1 | h1) | h1 | ⟨h1, h2⟩
      · exact .inl h1
      · rw [List.contains_iff_mem] at h1
        obtain ⟨m, hm, e⟩ := List.mem_map.1 h1
        rcases (hmem m).1 hm with h | h
        · exact .inr ⟨m, h, e⟩
        · exfalso
          obtain ⟨p, hp', e'⟩ := List.mem_map.1 h
          have hset : ∀ (D : List (Flt × Nat)), p ∈ D → (flList listed D).getD p.1.idx true = true := by
            intro D
            induction D with
            | nil => intro h; cases h
            | cons q D ihD =>
              intro h
              unfold flList
              by_cases hq : q.1.idx = p.1.idx
              · rw [hq]
                rcases Nat.lt_or_ge p.1.idx (flList listed D).size with h' | h'
                · simp [h']
                · simp
              · rcases List.mem_cons.1 h with e | h
                · rw [e] at hq; exact absurd rfl hq
                · rw [getD_set_ne true hq]; exact ihD h
          have := hset D hp'
          rw [show p.1.idx = j from by rw [← e, ← e']] at this
          rw [hun] at this
          cases this
      · exfalso
        obtain ⟨k, _, hk⟩ := List.any_eq_true.1 h1
        simp only [Bool.and_eq_true, Bool.not_eq_true'] at hk
        obtain ⟨⟨hk1, hk2⟩, hk3⟩ := hk
        refine waits_not hk3 ?_ hready
        have : (flList listed D).getD k true = false := by rw [flList_not fun p hp' => hidx p hp' k hk2]; exact hk1
        exact getD_both this
      · exfalso
        obtain ⟨m, hm⟩ := List.exists_mem_of_ne_nil _ (hl h1)
        exact waits_not (List.all_eq_true.1 h2 m.idx (List.mem_map.2 ⟨m, (hmem m).2 (.inl hm), rfl⟩)) (getD_both (undone m hm hall)) hready
    match steps, hf, hB, hW with
    | [], hf, hB, hW =>
      unfold stepsB at hB
      have hB1 := (Prod.mk.inj hB).1
      rw [Bool.and_eq_true] at hB1
      have hU : U ≠ [] := by rintro rfl; simp at hf
      rw [Nat.succ_add]
      refine ⟨fun h0 => ?_, fun j hj => ?_⟩
      · obtain ⟨m, hm⟩ := List.exists_mem_of_ne_nil _ hU
        have := uready m hm hB1.2
        rw [h0] at this
        cases this
      · rcases who none true hB1.1 (fun _ => hU) hB1.2 j hj with h | ⟨m, hm, rfl⟩
        · cases h
        · exact float m hm
    | (false, i) :: r, hf, hB, hW =>
      have hB' := hB
      unfold stepsB at hB
      dsimp only at hB
      have hB1 := (Prod.mk.inj hB).1
      have hB2 := (Prod.mk.inj hB).2
      simp only [Bool.and_eq_true] at hB1
      obtain ⟨⟨hs, hall⟩, hr⟩ := hB1
      unfold stepB at hs
      simp only [Bool.and_eq_true, Bool.not_eq_true'] at hs
      obtain ⟨⟨h1, h2⟩, h3⟩ := hs
      obtain ⟨o, v, ho, hl, hk⟩ := hW
      have hoa : l.toArray[i]? = some o := by simpa using ho
      have hne' : ∀ p, p ∈ D → p.1.idx ≠ i := fun p hp' => hidx p hp' i h3
      have hap : ∀ p, p ∈ D → p.1.dst ∉ o.looksAt l.toArray ∧ o.dst ≠ some p.1.dst := fun p hp' => by
        obtain ⟨om, hom, hd, _, ha, _⟩ := hF.op p.1 (hDf p hp')
        have hun : listed.getD p.1.idx true = false := by
          have := List.all_eq_true.1 hall p.1.idx (List.mem_map.2 ⟨p.1, hDf p hp', rfl⟩)
          simpa using this
        have := Region.free_spec hoa h2 p.1.idx om (by simpa using hom) (hne' p hp') hun (fun e he hb => (ha e he hb).elim)
        obtain ⟨a1, a2, a3⟩ := Oper.apart_spec this
        exact ⟨a3 _ hd, fun e => a2 _ e hd⟩
      obtain ⟨e1, e2⟩ := flAct_exec (a := a) (fun cs b => hsl i o cs b hoa) fun p hp' => (hap p hp').1
      rw [Nat.succ_add]
      refine anyC_first hoa hsl (f + g) _ _ _ (fun j oj hj hji hun hno => Region.free_spec hoa h2 j oj hj hji (flList_un hun) hno) (flList_ready hne' (by simpa using h1)) ((hl.sub fun x hx => hx.1).of_same e1 e2) ?_
      rw [flList_set hne', flAct_put fun p hp' => (hap p hp').2]
      exact ih r U D G C (a.put o.dst v) (listed.setIfInBounds i true) (by simp at hf; omega) hp (by rw [Prod.ext_iff]; exact ⟨hr, hB2⟩) hG hne hk
    | (true, c) :: r, hf, hB, hW =>
      unfold stepsB at hB
      dsimp only at hB
      have hB1 := (Prod.mk.inj hB).1
      have hB2 := (Prod.mk.inj hB).2
      simp only [Bool.and_eq_true] at hB1
      obtain ⟨⟨hs, hall⟩, hr⟩ := hB1
      unfold stepB at hs
      simp only [Bool.and_eq_true, Bool.not_eq_true'] at hs
      obtain ⟨⟨⟨h1, h2⟩, h3⟩, h4⟩ := hs
      obtain ⟨o, ho, hg, ht⟩ := hW
      have hoa : l.toArray[c]? = some o := by simpa using ho
      have hne' : ∀ p, p ∈ D → p.1.idx ≠ c := fun p hp' => hidx p hp' c h3
      have hap : ∀ p, p ∈ D → p.1.dst ∉ o.looksAt l.toArray ∧ o.dst ≠ some p.1.dst := fun p hp' => by
        obtain ⟨om, hom, hd, _, _, _⟩ := hF.op p.1 (hDf p hp')
        have := List.all_eq_true.1 h4 p.1.idx (List.mem_map.2 ⟨p.1, hDf p hp', rfl⟩)
        simp only [hom, ho] at this
        obtain ⟨a1, a2, a3⟩ := Oper.apart_spec this
        exact ⟨a3 _ hd, fun e => a2 _ e hd⟩
      rw [Nat.succ_add]
      have hrd := flList_ready (md := md) (l := l) hne' (by simpa using h1)
      refine ⟨fun h0 => (by rw [h0] at hrd; cases hrd), fun j hj => ?_⟩
      rcases who (some c) false h2 (fun h => (by cases h)) hall j hj with h | ⟨m, hm, rfl⟩
      · cases h
        unfold opC
        simp only [hoa]
        have hw : Region.wanted o (yielded l.toArray (flAct a D).tmps) = true := by unfold Region.wanted; rw [hg]
        simp only [hw, if_true]
        refine .inr fun w ⟨hC, hn, hD⟩ => ?_
        refine Oper.wp_mono ?_ (wp_flAct (fun cs b => hsl c o cs b hoa) (ht w hC) hap)
        rintro a' w' ⟨a0, rfl, hb, C', c1, c2, c3, c4⟩
        have hin : flCls C' base ((w.heap.size, w'.heap.size) :: G) D w' := ⟨c1, hn, fun p hp' => ⟨(hD p hp').1, Nat.lt_of_lt_of_le (hD p hp').2.1 hb.size, hF.keep _ (hDf p hp') w _ _ (hD p hp').2.1 (hb.block _ (hD p hp').2.1) (hD p hp').2.2.1, fun g hg => by
          rcases List.mem_cons.1 hg with rfl | hg
          · exact .inl (hD p hp').2.1
          · exact (hD p hp').2.2.2 g hg⟩⟩
        refine ⟨flCls C' base ((w.heap.size, w'.heap.size) :: G) D, hin, fun x hx => ⟨c2 x hx.1, hx.2.1, fun p hp' => ⟨(hx.2.2 p hp').1, (hx.2.2 p hp').2.1, (hx.2.2 p hp').2.2.1, fun g hg => (hx.2.2 p hp').2.2.2 g (List.mem_cons_of_mem _ hg)⟩⟩, ?_⟩
        · rw [flList_set hne']
          exact ih r U D ((w.heap.size, w'.heap.size) :: G) C' a0 (listed.setIfInBounds c true) (by simp at hf; omega) hp (by rw [Prod.ext_iff]; exact ⟨hr, hB2⟩) c3 ⟨_, hin⟩ c4
      · exact float m hm
/-- The walk in stretches, as in Seq. -/
def SeqF (P : Program) (l : List Oper) (base : Nat) (E : List (Nat × Nat) → (World → Prop) → Act → Prop) (s : List Nat) : List (List Nat × Nat) → List (Nat × Nat) → (World → Prop) → Act → Prop
  | [], G, C, a => wpQuiet P l.toArray (fun w' => ∃ x : In C, w' = x.w) (fun a' => E G C a') (opsAt l s) a
  | (q, c) :: rest, G, C, a => wpQuiet P l.toArray (fun w' => ∃ x : In C, w' = x.w) (fun a' => ∃ o, l[c]? = some o ∧ o.guard = none ∧ TurnsB P o a' C (fun g C' a'' => Grows base (g :: G) C' ∧ SeqF P l base E s rest (g :: G) C' a'')) (opsAt l q) a
def flat (s : List Nat) : List (List Nat × Nat) → List (Bool × Nat)
  | [] => s.map fun i => (false, i)
  | (q, c) :: rest => (q.map fun i => (false, i)) ++ (true, c) :: flat s rest
def plainAll (l : List Oper) (s : List Nat) : Bool := s.all fun i => ((l[i]?).map plainB).getD false
def plainSegs (l : List Oper) (s : List Nat) : List (List Nat × Nat) → Bool
  | [] => plainAll l s
  | (q, _) :: rest => plainAll l q && plainSegs l s rest
theorem walk_quiet {G : List (Nat × Nat)} {C : World → Prop} {E : List (Nat × Nat) → (World → Prop) → Act → Prop} {K : Act → Prop} {r : List (Bool × Nat)} (hK : ∀ a, K a → WalkF P l base E r G C a) :
    ∀ (q : List Nat) (a : Act), plainAll l q = true → wpQuiet P l.toArray (fun w' => ∃ x : In C, w' = x.w) K (opsAt l q) a → WalkF P l base E ((q.map fun i => (false, i)) ++ r) G C a
  | [], a, _, h => hK a h
  | i :: q, a, hp, h => by
    unfold plainAll at hp
    rw [List.all_cons, Bool.and_eq_true] at hp
    cases ho : l[i]? with
    | none => rw [ho] at hp; exact absurd hp.1 (by simp)
    | some o =>
      rw [ho] at hp
      have e : opsAt l (i :: q) = o :: opsAt l q := by unfold opsAt; rw [List.filterMap_cons]; simp [ho]
      rw [e] at h
      have ecls : (fun w' => ∃ x : In C, w' = x.w) = C := funext fun w => propext ⟨fun ⟨x, e⟩ => e ▸ x.h, fun h => ⟨⟨w, h⟩, rfl⟩⟩
      have hlex : ∃ v, LeavesV P l.toArray C o v a ∧ wpQuiet P l.toArray (fun w' => ∃ x : In C, w' = x.w) K (opsAt l q) (a.put o.dst v) := by
        change (if Region.wanted o (yielded l.toArray a.tmps) then o.quiet P a (fun w' => ∃ x : In C, w' = x.w) (wpQuiet P l.toArray (fun w' => ∃ x : In C, w' = x.w) K (opsAt l q)) else wpQuiet P l.toArray (fun w' => ∃ x : In C, w' = x.w) K (opsAt l q) (a.put o.dst undef)) at h
        by_cases hw : Region.wanted o (yielded l.toArray a.tmps) = true
        · rw [if_pos hw] at h
          obtain ⟨v, hv, hk⟩ := h
          rw [ecls] at hv
          exact ⟨v, .inl ⟨hw, looks_of_quiet (by simpa using hp.1) hv⟩, hk⟩
        · rw [if_neg hw] at h
          exact ⟨undef, .inr ⟨by simpa using hw, rfl⟩, h⟩
      obtain ⟨v, hv, hk⟩ := hlex
      exact ⟨o, v, ho, hv, walk_quiet hK q _ hp.2 hk⟩
theorem walk_of_seqF {E : List (Nat × Nat) → (World → Prop) → Act → Prop} {s : List Nat} : ∀ (segs : List (List Nat × Nat)) (G : List (Nat × Nat)) (C : World → Prop) (a : Act), plainSegs l s segs = true → SeqF P l base E s segs G C a → WalkF P l base E (flat s segs) G C a
  | [], G, C, a, hp, h => by
    have := walk_quiet (P := P) (l := l) (base := base) (C := C) (E := E) (r := []) (G := G) (K := fun a' => E G C a') (fun a h => h) s a hp h
    rwa [List.append_nil] at this
  | (q, c) :: rest, G, C, a, hp, h => by
    unfold plainSegs at hp
    rw [Bool.and_eq_true] at hp
    exact walk_quiet (r := (true, c) :: flat s rest) (fun a' ⟨o, ho, hg, ht⟩ => ⟨o, ho, hg, fun w hw => Oper.wp_mono (fun _ _ ⟨h1, C', h2, h3, h4, h5⟩ => ⟨h1, C', h2, h3, h4, walk_of_seqF rest _ C' _ hp.2 h5⟩) (ht w hw)⟩) q a hp.1 h

def flSet (listed : Array Bool) (fs : List Flt) : Array Bool := fs.foldr (fun m k => k.setIfInBounds m.idx true) listed
theorem flList_perm {listed : Array Bool} {fs : List Flt} : ∀ {D : List (Flt × Nat)}, (D.map (·.1)).Perm fs → flList listed D = flSet listed fs := fun {D} h => by
  have e : ∀ D : List (Flt × Nat), flList listed D = flSet listed (D.map (·.1)) := by
    intro D
    induction D with
    | nil => rfl
    | cons p D ih => unfold flList; rw [ih]; rfl
  rw [e D]
  unfold flSet
  exact List.Perm.foldr_eq' h (fun x _ y _ z => by
    by_cases hxy : x.idx = y.idx
    · rw [hxy]
    · exact Array.setIfInBounds_comm _ _ hxy) _

theorem turnsB_step {o : Oper} {a : Act} {C : World → Prop} {K : Nat × Nat → (World → Prop) → Act → Prop}
    (h : ∀ (Z : Act → World → Prop) w, C w → (∀ (C' : World → Prop) a' w', Below w.heap.size w w' → C' w' → (∀ x, C' x → C x) → K (w.heap.size, w'.heap.size) C' a' → Z a' w') → o.wp P a w Z NoExit) : TurnsB P o a C K :=
  fun w hw => h _ w hw fun C' _ _ h1 h2 h3 h4 => ⟨h1, C', h2, h3, h4⟩
end

def fltOk (l : List Oper) (fs : List Flt) (segs : List (List Nat × Nat)) (s : List Nat) (tsegs : List (List Nat × Nat)) (t : List Nat) : Bool :=
  Region.noSelect l.toArray && plainSegs l s segs && (stepsB .any l (fs.map (·.idx)) (flat s segs) (Array.replicate l.length false)).1 &&
    seqOk .any l t tsegs (flSet (stepsB .any l (fs.map (·.idx)) (flat s segs) (Array.replicate l.length false)).2 fs) && ((flat s segs).length + fs.length + seqLen t tsegs == l.length)

/-- The rule. -/
theorem wp_region_flt {P : Program} {l : List Oper} {id : Nat} {Q : Exit → Act → World → Prop} {a : Act} {W : World} (C : World → Prop) (fs : List Flt) (segs : List (List Nat × Nat)) (s : List Nat) (tsegs : List (List Nat × Nat)) (t : List Nat)
    (hm : P.follows .mixedOrders = true) (hB : fltOk l fs segs s tsegs t = true) (hF : Floats P l .any fs) (hG : Grows W.heap.size [] C) (hC : ∀ n, C { W with drawn := n })
    (h : SeqF P l W.heap.size (fun G C' a' => ∀ D, (D.map (·.1)).Perm fs → (∃ w, flCls C' W.heap.size G D w) → Seq P l (fun a'' w'' => Q .normal a'' w'') t tsegs (fun w' => ∃ x : In (flCls C' W.heap.size G D), w' = x.w) (flAct a' D)) s segs [] C a) :
    (Code.region id l.toArray true).wp P Q a W := by
  unfold fltOk at hB
  simp only [Bool.and_eq_true, beq_iff_eq] at hB
  obtain ⟨⟨⟨⟨h1, h2⟩, h3⟩, h4⟩, h5⟩ := hB
  refine wp_region_any hm ?_
  have hn : ∃ w, flCls C W.heap.size [] [] w := ⟨{ W with drawn := 0 }, hC 0, List.nodup_nil, fun p hp => (by cases hp)⟩
  have main := flt_any (md := .any) (base := W.heap.size) (fl := fs) (Q := fun a'' w'' => Q .normal a'' w'') (g := seqLen t tsegs) (Lend := (stepsB .any l (fs.map (·.idx)) (flat s segs) (Array.replicate l.length false)).2) hF h1
    (fun G C' a' D hp hne hk => by
      rw [flList_perm hp]
      have ecls : (fun w' => ∃ x : In (flCls C' W.heap.size G D), w' = x.w) = flCls C' W.heap.size G D := funext fun w => propext ⟨fun ⟨x, e⟩ => e ▸ x.h, fun h => ⟨⟨w, h⟩, rfl⟩⟩
      have := hk D hp hne
      rw [ecls] at this
      exact seq_any h1 tsegs _ _ _ h4 this) _ (flat s segs) fs [] [] C a (Array.replicate l.length false) rfl (by simp) (by rw [Prod.ext_iff]; exact ⟨h3, rfl⟩) hG hn (walk_of_seqF segs [] C a h2 h)
  have ec : flCls C W.heap.size [] [] = C := funext fun w => propext ⟨fun h => h.1, fun h => ⟨h, List.nodup_nil, fun p hp => (by cases hp)⟩⟩
  rw [ec, h5] at main
  have := any_of_anyC (Q' := Q) (fun _ _ hq => hq) _ _ C a _ (hC (W.drawn + 1)) main
  simpa [flList, flAct] using this

theorem floats_one {P : Program} {l : List Oper} {md : Region.Mode} {m : Flt} (h : ∃ o, l[m.idx]? = some o ∧ o.dst = some m.dst ∧ o.guard = none ∧ (∀ e ∈ o.after, Region.binds md e = true → False) ∧ ∀ (a : Act) (w : World), (execOp a.eval o).run P w = .ok (.value (.pointer (some ⟨w.heap.size, 0, none⟩))) (w.alloc m.obj))
    (hf : ∀ w : World, m.ok (w.alloc m.obj) w.heap.size) (hk : ∀ (w w' : World) (b : Nat), b < w.heap.size → w'.heap[b]? = w.heap[b]? → m.ok w b → m.ok w' b) : Floats P l md [m] :=
  ⟨by simp, fun x hx => by obtain rfl : x = m := by simpa using hx
                           exact h, fun x hx => by obtain rfl : x = m := by simpa using hx
                                                   exact hf, fun x hx => by obtain rfl : x = m := by simpa using hx
                                                                            exact hk⟩
theorem floats_two {P : Program} {l : List Oper} {md : Region.Mode} {m m' : Flt} (hne : m.idx ≠ m'.idx) (h : Floats P l md [m]) (h' : Floats P l md [m']) : Floats P l md [m, m'] :=
  have split : ∀ {Z : Flt → Prop}, Z m → Z m' → ∀ x, x ∈ [m, m'] → Z x := fun hz hz' x hx => by
    rcases List.mem_cons.1 hx with rfl | hx
    · exact hz
    · obtain rfl : x = m' := by simpa using hx
      exact hz'
  ⟨by simp [hne], split (h.op _ List.mem_cons_self) (h'.op _ List.mem_cons_self), split (h.fresh _ List.mem_cons_self) (h'.fresh _ List.mem_cons_self), split (h.keep _ List.mem_cons_self) (h'.keep _ List.mem_cons_self)⟩
/-- One such allocation. -/
theorem flt_one {m : Flt} {base : Nat} {G : List (Nat × Nat)} {C : World → Prop} {a : Act} {R : (World → Prop) → Act → Prop}
    (h : ∀ b, base ≤ b → (∀ g, g ∈ G → b < g.1 ∨ g.2 ≤ b) → (∃ w, C w ∧ b < w.heap.size ∧ m.ok w b) → R (fun w' => ∃ x : In (fun z => C z ∧ b < z.heap.size ∧ m.ok z b), w' = x.w) (a.put (some m.dst) (.pointer (some ⟨b, 0, none⟩)))) :
    ∀ D, (D.map (·.1)).Perm [m] → (∃ w, flCls C base G D w) → R (fun w' => ∃ x : In (flCls C base G D), w' = x.w) (flAct a D) := by
  intro D hp ⟨w, hw⟩
  match D, hp with
  | [], hp => exact absurd hp.length_eq (by simp)
  | [(m', b)], hp =>
    obtain rfl : m' = m := by simpa using hp
    have h1 := hw.2.2 _ List.mem_cons_self
    have e : flCls C base G [(m', b)] = fun z => C z ∧ b < z.heap.size ∧ m'.ok z b := funext fun z => propext ⟨fun ⟨g1, _, g3⟩ => ⟨g1, (g3 _ List.mem_cons_self).2.1, (g3 _ List.mem_cons_self).2.2.1⟩, fun ⟨g1, g2, g3⟩ => ⟨g1, by simp, fun p hp => by
      obtain rfl : p = (m', b) := by simpa using hp
      exact ⟨h1.1, g2, g3, h1.2.2.2⟩⟩⟩
    rw [e]
    exact h b h1.1 h1.2.2.2 ⟨w, hw.1, h1.2.1, h1.2.2.1⟩
  | _ :: _ :: _, hp => exact absurd hp.length_eq (by simp)
/-- Two of them. -/
theorem flt_two {m n : Flt} {base : Nat} {G : List (Nat × Nat)} {C : World → Prop} {a : Act} {R : (World → Prop) → Act → Prop} (hd : m.dst ≠ n.dst)
    (h : ∀ b c, b ≠ c → base ≤ b → base ≤ c → (∀ g, g ∈ G → b < g.1 ∨ g.2 ≤ b) → (∀ g, g ∈ G → c < g.1 ∨ g.2 ≤ c) → (∃ w, C w ∧ (b < w.heap.size ∧ m.ok w b) ∧ c < w.heap.size ∧ n.ok w c) → R (fun w' => ∃ x : In (fun z => C z ∧ (b < z.heap.size ∧ m.ok z b) ∧ c < z.heap.size ∧ n.ok z c), w' = x.w) ((a.put (some m.dst) (.pointer (some ⟨b, 0, none⟩))).put (some n.dst) (.pointer (some ⟨c, 0, none⟩)))) :
    ∀ D, (D.map (·.1)).Perm [m, n] → (∃ w, flCls C base G D w) → R (fun w' => ∃ x : In (flCls C base G D), w' = x.w) (flAct a D) := by
  intro D hp ⟨w, hw⟩
  match D, hp with
  | [], hp => exact absurd hp.length_eq (by simp)
  | [_], hp => exact absurd hp.length_eq (by simp)
  | [(x, b), (y, c)], hp =>
    have h1 := hw.2.2 (x, b) List.mem_cons_self
    have h2 := hw.2.2 (y, c) (List.mem_cons_of_mem _ List.mem_cons_self)
    have hbc : b ≠ c := by have := hw.2.1; simp at this; exact this
    have e : flCls C base G [(x, b), (y, c)] = fun z => C z ∧ (b < z.heap.size ∧ x.ok z b) ∧ c < z.heap.size ∧ y.ok z c := funext fun z => propext ⟨fun ⟨g1, _, g3⟩ => ⟨g1, ⟨(g3 _ List.mem_cons_self).2.1, (g3 _ List.mem_cons_self).2.2.1⟩, (g3 _ (List.mem_cons_of_mem _ List.mem_cons_self)).2.1, (g3 _ (List.mem_cons_of_mem _ List.mem_cons_self)).2.2.1⟩, fun ⟨g1, g2, g3⟩ => ⟨g1, by simp [hbc], fun p hp => by
      rcases List.mem_cons.1 hp with rfl | hp
      · exact ⟨h1.1, g2.1, g2.2, h1.2.2.2⟩
      · obtain rfl : p = (y, c) := by simpa using hp
        exact ⟨h2.1, g3.1, g3.2, h2.2.2.2⟩⟩⟩
    have hxy : (x = m ∧ y = n) ∨ (x = n ∧ y = m) := by
      have hx : x ∈ [m, n] := hp.subset List.mem_cons_self
      rcases List.mem_cons.1 hx with rfl | hx
      · have := (List.perm_cons x).1 hp
        exact .inl ⟨rfl, by simpa using this⟩
      · obtain rfl : x = n := by simpa using hx
        have := (List.perm_cons x).1 (hp.trans (List.Perm.swap _ _ _))
        exact .inr ⟨rfl, by simpa using this⟩
    rw [e]
    rcases hxy with ⟨rfl, rfl⟩ | ⟨rfl, rfl⟩
    · have := h b c hbc h1.1 h2.1 h1.2.2.2 h2.2.2.2 ⟨w, hw.1, ⟨h1.2.1, h1.2.2.1⟩, h2.2.1, h2.2.2.1⟩
      unfold flAct flAct flAct
      rw [Act.put_comm _ _ _ (fun d e1 e2 => hd (Option.some.inj (e1.trans e2.symm)))] at this
      exact this
    · have := h c b (Ne.symm hbc) h2.1 h1.1 h2.2.2.2 h1.2.2.2 ⟨w, hw.1, ⟨h2.2.1, h2.2.2.1⟩, h1.2.1, h1.2.2.1⟩
      have e2 : (fun z : World => C z ∧ (b < z.heap.size ∧ x.ok z b) ∧ c < z.heap.size ∧ y.ok z c) = fun z => C z ∧ (c < z.heap.size ∧ y.ok z c) ∧ b < z.heap.size ∧ x.ok z b := funext fun z => propext ⟨fun ⟨g1, g2, g3⟩ => ⟨g1, g3, g2⟩, fun ⟨g1, g2, g3⟩ => ⟨g1, g3, g2⟩⟩
      rw [e2]
      exact this
  | _ :: _ :: _ :: _, hp => exact absurd hp.length_eq (by simp)

/-- A class: what lay there lies there; so many blocks; and more. -/
structure St (W : World) (S : Nat) (F : World → Prop) (y : World) : Prop where
  b : Below W.heap.size W y
  s : S ≤ y.heap.size
  f : F y
theorem St.grows {W : World} {S : Nat} {F : World → Prop} {G : List (Nat × Nat)} (hW : W.heap.size ≤ S) (hG : ∀ g, g ∈ G → g.2 ≤ S) (hF : ∀ y o, F y → F (World.alloc y o)) : Grows W.heap.size G (St W S F) :=
  fun y hy => ⟨Nat.le_trans hW hy.s, fun g hg => Nat.le_trans (hG g hg) hy.s, fun o => ⟨hy.b.alloc hy.b.size o, Nat.le_trans hy.s (by simp), hF y o hy.f⟩⟩
theorem St.sub {W : World} {S S' : Nat} {F F' : World → Prop} (h : S ≤ S') (hf : ∀ y, F' y → F y) : ∀ y, St W S' F' y → St W S F y := fun y hy => ⟨hy.b, Nat.le_trans h hy.s, hf y hy.f⟩
theorem St.base (W : World) (m : Nat) : St W W.heap.size (fun _ => True) { W with drawn := m } := ⟨⟨rfl, rfl, rfl, Nat.le_refl _, fun _ _ => rfl⟩, Nat.le_refl _, trivial⟩

end Go.Proofs.Ytmkmaeblnnfheab
