/- A region that draws its order: operations that only read may come behind operations that only make memory. -/
import Derived.Test.YtmbcblabfgepfaaDoorFmG
import Derived.StillTail
import Derived.Deep.Quiet
set_option autoImplicit true
set_option linter.unusedVariables false
set_option linter.unusedSimpArgs false
set_option linter.unusedSectionVars false
namespace Go.Fm
variable [Strict]
section
variable {P : Program} {ops : Array Oper}

theorem wp_anyQ {o : Oper} {a : Act} {w : World} {K : Act → World → Prop} {Q : Exit → Act → World → Prop} (h : o.wp P a w K (fun _ _ _ => False)) : o.wp P a w K Q := by
  unfold Oper.wp at *
  generalize (execOp a.eval o).run P w = res at *
  cases res with
  | ok x w2 =>
    cases x <;> simp only [Oper.upon] at h ⊢ <;> try exact h
    refine h.mono fun e w3 h' => ?_
    cases e with
    | returned v => exact h'
    | panicked c => exact h'.elim
    | outgrown => obtain ⟨_, _, h'⟩ := h'; exact h'.elim
  | halt x w2 => cases x <;> simp only [Oper.upon] at h ⊢ <;> exact h.elim

def wstep (P : Program) (ops : Array Oper) (i : Nat) (K : Act → World → Prop) (a : Act) (w : World) : Prop :=
  ∃ o, ops[i]? = some o ∧ if Region.wanted o (yielded ops a.tmps) = true then o.wp P a w K (fun _ _ _ => False) else K (a.put o.dst undef) w
theorem wstep.op {i : Nat} {K : Act → World → Prop} {Q : Exit → Act → World → Prop} {a : Act} {w : World} (h : wstep P ops i K a w) : wpOp P ops Q i K a w := by
  obtain ⟨o, ho, h⟩ := h
  unfold wpOp
  simp only [ho]
  split
  · rename_i hw; rw [if_pos hw] at h; exact .inl (wp_anyQ h)
  · rename_i hw; rw [if_neg hw] at h; exact h
theorem wstep.mono {i : Nat} {K K' : Act → World → Prop} {a : Act} {w : World} (hk : ∀ a w, K a w → K' a w) (h : wstep P ops i K a w) : wstep P ops i K' a w := by
  obtain ⟨o, ho, h⟩ := h
  refine ⟨o, ho, ?_⟩
  split
  · rename_i hw; rw [if_pos hw] at h; exact Oper.wp_mono hk h
  · rename_i hw; rw [if_neg hw] at h; exact hk _ _ h
theorem wstep_put {j : Nat} {oi oj : Oper} {v : Value} (hj : ops[j]? = some oj) (hap : oi.apart ops oj = true) (hsj : ∀ cs b, oj.op ≠ .select cs b) {K : Act → World → Prop} {a : Act} {w : World}
    (h : wstep P ops j K (a.put oi.dst v) w) : wstep P ops j (fun a' w' => (∃ u, a'.tmps = (a.put oj.dst u).tmps) ∧ K (a'.put oi.dst v) w') a w := by
  obtain ⟨h1, h2, h3⟩ := Oper.apart_spec hap
  obtain ⟨o, ho, h⟩ := h
  rw [hj] at ho; cases ho
  refine ⟨oj, hj, ?_⟩
  rw [wanted_put oj a oi.dst v h1] at h
  split
  · rename_i hw
    rw [if_pos hw] at h
    unfold Oper.wp at *
    rw [execOp_put oj hsj a oi.dst v h1] at h
    generalize (execOp a.eval oj).run P w = res at *
    have hc : ∀ u, (a.put oi.dst v).put oj.dst u = (a.put oj.dst u).put oi.dst v := fun u => Act.put_comm a v u h2
    cases res with
    | ok x w2 =>
      cases x with
      | value u => simp only [Oper.upon] at h ⊢; rw [hc] at h; exact ⟨⟨u, rfl⟩, h⟩
      | skip => simp only [Oper.upon] at h ⊢; rw [hc] at h; exact ⟨⟨undef, rfl⟩, h⟩
      | defer d =>
        simp only [Oper.upon] at h ⊢
        rw [Act.put_defers a, Act.put_comm { a with defers := d :: a.defers } v undef h2] at h
        refine ⟨⟨undef, ?_⟩, h⟩
        cases oj.dst <;> rfl
      | enter f args =>
        simp only [Oper.upon] at h ⊢
        refine h.mono fun e w3 h' => ?_
        cases e with
        | returned u => dsimp only at h' ⊢; rw [hc] at h'; exact ⟨⟨u, rfl⟩, h'⟩
        | panicked c => exact h'.elim
        | outgrown => exact h'
      | row r args =>
        simp only [Oper.upon] at h ⊢
        exact h.mono fun u w3 h' => by rw [hc] at h'; exact ⟨⟨u, rfl⟩, h'⟩
      | _ => simp only [Oper.upon] at h
    | halt x w2 => cases x <;> simp only [Oper.upon] at h ⊢ <;> exact h.elim
  · rename_i hw
    rw [if_neg hw] at h
    exact ⟨⟨undef, rfl⟩, by rw [← Act.put_comm a v undef h2]; exact h⟩

/-- what must be listed before -/
theorem reach_listed {listed : Array Bool} (hc : ∀ j oj, ops[j]? = some oj → listed.getD j false = true → ∀ e ∈ oj.after, Region.binds .any e = true → listed.getD e.on false = true) :
    ∀ (f j i : Nat) (oj : Oper), ops[j]? = some oj → (∀ e ∈ oj.after, Region.binds .any e = true → listed.getD e.on false = true) → reachB ops f j i = true → listed.getD i false = true
  | 0, j, i, oj, hj, hl, h => by cases h
  | f + 1, j, i, oj, hj, hl, h => by
    simp only [reachB, hj, Array.any_eq_true', Bool.and_eq_true, Bool.or_eq_true, beq_iff_eq] at h
    obtain ⟨e, he, hb, h⟩ := h
    have h1 := hl e he hb
    rcases h with rfl | h
    · exact h1
    · cases hk : ops[e.on]? with
      | none =>
        exfalso
        cases f with
        | zero => cases h
        | succ f => simp [reachB, hk] at h
      | some ok => exact reach_listed hc f e.on i ok hk (hc e.on ok hk h1) h
def Closed (ops : Array Oper) (listed : Array Bool) : Prop := listed.size = ops.size ∧ ∀ j oj, ops[j]? = some oj → listed.getD j false = true → ∀ e ∈ oj.after, Region.binds .any e = true → listed.getD e.on false = true
theorem Closed.set {listed : Array Bool} {i : Nat} (h : Closed ops listed) (hi : i ∈ Region.ready .any ops listed) : Closed ops (listed.setIfInBounds i true) := by
  refine ⟨by simp [h.1], fun j oj hj hl e he hb => ?_⟩
  by_cases hij : i = j
  · subst hij
    obtain ⟨_, o, ho, hall⟩ := mem_ready.1 hi
    rw [hj] at ho; cases ho
    exact getD_set_true (hall e he hb)
  · rw [getD_set_ne false hij] at hl
    exact getD_set_true (h.2 j oj hj hl e he hb)

variable {Gr : Nat → World → World → Prop} {H0 : List Nat} {N : Nat} {Q : Act → World → Prop}
def wpAnyG (P : Program) (ops : Array Oper) (Gr : Nat → World → World → Prop) (H0 : List Nat) (N : Nat) (Q : Act → World → Prop) : Nat → Array Bool → Act → World → Prop
  | 0, listed, a, w => Region.ready .any ops listed = [] ∧ ∀ w', Grow w w' → Q a w'
  | f + 1, listed, a, w => ∀ w1, Grow w w1 → (Region.ready .any ops listed = [] → Q a w1) ∧ ∀ j ∈ Region.ready .any ops listed, wstep P ops j (fun a' w' => (∀ i ∈ H0, reachB ops N j i = false → Gr i w1 w') ∧ wpAnyG P ops Gr H0 N Q f (listed.setIfInBounds j true) a' w') a w1
theorem wpAnyG.grow : ∀ {f : Nat} {listed : Array Bool} {a : Act} {w w' : World}, wpAnyG P ops Gr H0 N Q f listed a w → Grow w w' → wpAnyG P ops Gr H0 N Q f listed a w'
  | 0, _, _, _, _, h, hg => ⟨h.1, fun w'' hg' => h.2 w'' (hg.trans hg')⟩
  | f + 1, _, _, _, _, h, hg => fun w1 hg1 => h w1 (hg.trans hg1)
theorem wpAny_of_G {Q' : Exit → Act → World → Prop} (hQ : ∀ a w, Q a w → Q' .normal a w) : ∀ (f : Nat) (listed : Array Bool) (a : Act) (w : World), wpAnyG P ops Gr H0 N Q f listed a w → wpAny P .any ops Q' f listed a w
  | 0, _, _, w, h => ⟨h.1, hQ _ _ (h.2 w (Grow.refl w))⟩
  | f + 1, _, _, w, h => ⟨fun h0 => hQ _ _ ((h w (Grow.refl w)).1 h0), fun i hi => (((h w (Grow.refl w)).2 i hi).mono fun a' w' h' => wpAny_of_G hQ f _ a' w' h'.2).op⟩
def YieldsG (P : Program) (ops : Array Oper) (G : World → World → Prop) (o : Oper) (v : Value) (a : Act) (w : World) : Prop :=
  (Region.wanted o (yielded ops a.tmps) = true ∧ ∀ w1, G w w1 → o.quietAt P a (Grow w1) w1 v) ∨ (Region.wanted o (yielded ops a.tmps) = false ∧ v = undef)
theorem YieldsG.step {G : World → World → Prop} {i : Nat} {o : Oper} {v : Value} {a : Act} {w w1 : World} (hi : ops[i]? = some o) (hy : YieldsG P ops G o v a w) (hg : G w w1) {K : Act → World → Prop} (h : ∀ w', Grow w1 w' → K (a.put o.dst v) w') : wstep P ops i K a w1 := by
  refine ⟨o, hi, ?_⟩
  rcases hy with ⟨hw, hv⟩ | ⟨hw, rfl⟩
  · rw [if_pos hw]
    have hq := hv w1 hg
    unfold Oper.wp
    unfold Oper.quietAt at hq
    generalize (execOp a.eval o).run P w1 = res at *
    cases res with
    | ok x w2 =>
      cases x <;> simp only [Oper.quietUpon] at hq <;> simp only [Oper.upon]
      case value u => obtain ⟨e1, e2⟩ := hq; rw [e1, e2]; exact h _ (Grow.refl _)
      case skip => obtain ⟨e1, e2⟩ := hq; rw [e1, ← e2]; exact h _ (Grow.refl _)
      case enter f args =>
        obtain ⟨e1, hc⟩ := hq
        rw [e1]
        exact hc.mono fun e w'' ⟨he, hw''⟩ => by subst he; exact h _ hw''
    | halt x w2 => simp only [Oper.quietUpon] at hq
  · rw [if_neg (by simp [hw])]
    exact h _ (Grow.refl _)
theorem eval_tmps {a a' : Act} (h : a'.tmps = a.tmps) : a'.eval = a.eval := by
  funext x
  cases x <;> simp [Act.eval, h]
theorem YieldsG.turn {G : World → World → Prop} (htr : ∀ w w' w'', G w w' → G w' w'' → G w w'') {oi oj : Oper} {v u : Value} {a a' : Act} {w w' : World} (hap : oi.apart ops oj = true) (hsi : ∀ cs b, oi.op ≠ .select cs b) (ht : a'.tmps = (a.put oj.dst u).tmps) (hg : G w w') (hy : YieldsG P ops G oi v a w) : YieldsG P ops G oi v a' w' := by
  obtain ⟨h1, h2, h3⟩ := Oper.apart_spec hap
  have e1 : execOp a'.eval oi = execOp a.eval oi := by rw [eval_tmps ht]; exact execOp_put oi hsi a oj.dst u h3
  have e2 : Region.wanted oi (yielded ops a'.tmps) = Region.wanted oi (yielded ops a.tmps) := by rw [ht]; exact wanted_put oi a oj.dst u h3
  rcases hy with ⟨hw, hv⟩ | ⟨hw, rfl⟩
  · refine .inl ⟨by rw [e2]; exact hw, fun w1 hg1 => ?_⟩
    have := hv w1 (htr _ _ _ hg hg1)
    unfold Oper.quietAt at *
    rw [e1]; exact this
  · exact .inr ⟨by rw [e2]; exact hw, rfl⟩
theorem wpAnyG_first (hgr : ∀ i w w', Grow w w' → Gr i w w') (htr : ∀ i w w' w'', Gr i w w' → Gr i w' w'' → Gr i w w'') {i : Nat} (hi0 : i ∈ H0) {oi : Oper} {v : Value} (hi : ops[i]? = some oi) (hsel : ∀ (j : Nat) (o : Oper) cs b, ops[j]? = some o → o.op ≠ .select cs b) :
    ∀ (fuel : Nat) (listed : Array Bool) (a : Act) (w : World), Closed ops listed →
      (∀ j oj, ops[j]? = some oj → j ≠ i → listed.getD j true = false → (∀ e ∈ oj.after, Region.binds .any e = true → e.on ≠ i) → oi.apart ops oj = true) →
      i ∈ Region.ready .any ops listed → YieldsG P ops (Gr i) oi v a w →
      wpAnyG P ops Gr H0 N Q fuel (listed.setIfInBounds i true) (a.put oi.dst v) w → wpAnyG P ops Gr H0 N Q (fuel + 1) listed a w := by
  intro fuel
  induction fuel with
  | zero =>
    intro listed a w _ _ hr hy H w1 hg1
    refine ⟨fun h => (by rw [h] at hr; cases hr), fun j hj => ?_⟩
    by_cases hji : j = i
    · subst hji; exact hy.step hi (hgr _ _ _ hg1) fun w' hg' => ⟨fun _ _ _ => hgr _ _ _ hg', H.grow (hg1.trans hg')⟩
    · have := ready_mono hj hji
      rw [H.1] at this
      cases this
  | succ fuel ih =>
    intro listed a w hcl hfree hr hy H w1 hg1
    have hun := (mem_ready.1 hr).1
    refine ⟨fun h => (by rw [h] at hr; cases hr), fun j hj => ?_⟩
    by_cases hji : j = i
    · subst hji; exact hy.step hi (hgr _ _ _ hg1) fun w' hg' => ⟨fun _ _ _ => hgr _ _ _ hg', H.grow (hg1.trans hg')⟩
    · obtain ⟨hjun, oj, hoj, hall⟩ := mem_ready.1 hj
      have hnot : ∀ e ∈ oj.after, Region.binds .any e = true → e.on ≠ i := fun e he hb heq => by
        have h1 := hall e he hb
        rw [heq, getD_both hun] at h1
        cases h1
      have hap := hfree j oj hoj hji hjun hnot
      have hl : reachB ops N j i = false := by
        cases hlj : reachB ops N j i with
        | false => rfl
        | true =>
          have := reach_listed hcl.2 N j i oj hoj hall hlj
          rw [getD_both hun] at this
          cases this
      refine (wstep_put hoj hap (fun cs b => hsel j oj cs b hoj) ((H w1 hg1).2 j (ready_mono hj hji))).mono ?_
      rintro a' w' ⟨⟨u, ht⟩, hgr', hK⟩
      have hg' := hgr' i hi0 hl
      refine ⟨hgr', ih (listed.setIfInBounds j true) a' w' (hcl.set hj) ?_ (ready_mono hr (Ne.symm hji)) (hy.turn (htr i) hap (fun cs b => hsel i oi cs b hi) ht (htr i _ _ _ (hgr _ _ _ hg1) hg')) ?_⟩
      · intro k ok hk hki hun' hno
        refine hfree k ok hk hki ?_ hno
        by_cases hjk : j = k
        · subst hjk; exact hjun
        · rw [getD_set_ne true hjk] at hun'; exact hun'
      · rw [Array.setIfInBounds_comm _ _ hji]
        exact hK
end
end Go.Fm
