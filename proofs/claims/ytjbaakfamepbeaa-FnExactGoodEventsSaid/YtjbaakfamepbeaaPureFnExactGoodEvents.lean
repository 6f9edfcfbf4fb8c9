/- The pure statement of the law FnExactGoodEvents: at every list of events the printed law answers true. -/
import Derived.Test.YtjbaakfamepbeaaSayFnExactGoodEvents
import Derived.Test.YtjbaakfamepbeaaAid
namespace Go.Proofs.Ytjbaakfamepbeaa.Pure
open Go.RowKit Go.Proofs.Ytjbaakfamepbeaa.PFnExactGoodEvents Go.Proofs.YtjbaakfamepbeaaW.PrintWords Go.Proofs.YtjbaakfamepbeaaW.PrintLast Go.Proofs.Ytjbaakfamepbeaa.Aid Go.Proofs.Ytjbaakfamepbeaa.MapW
set_option linter.unusedVariables false
set_option linter.unusedSimpArgs false

theorem in_f (a b c : Int) : impl_in.f a b c = some (decide (b ≤ a ∧ a ≤ c)) := by
  unfold impl_in.f
  by_cases h : a ≥ b
  · rw [if_pos h]; simp [h]
  · rw [if_neg h]; simp [h]
theorem l1In_f (a b c : Int) : spec_l1In.f a b c = some (decide (b ≤ a ∧ a ≤ c)) := by
  unfold spec_l1In.f
  by_cases h : a ≥ b
  · rw [if_pos h]; simp [h]
  · rw [if_neg h]; simp [h]

abbrev Ev1 := S91
theorem rdE {xs : List Ev1} {n : Nat} {x : Ev1} (h : xs[n]? = some x) : rd_T91 xs (n : Int) = x := by simp [rd_T91, h]
def sentB (p : List Ev1) (x : Int) : Bool := p.any fun o => decide (o.f0 = 2) && decide (o.f2 = x)
def takenB (p : List Ev1) (x : Int) : Bool := p.any fun o => decide (o.f0 = 3) && decide (o.f2 = x)
def sameB (p : List Ev1) (k x : Int) : Bool := p.any fun o => decide (o.f0 = k) && decide (o.f2 = x)
def inI (x a b : Int) : Bool := decide (a ≤ x ∧ x ≤ b)
/-- Is an event good behind these? -/
def evOk (p : List Ev1) (e : Ev1) : Bool := inI e.f0 1 3 && inI e.f1 0 5 && (if e.f0 = 1 then decide (e.f2 = 0) else !sameB p e.f0 e.f2 && inI e.f2 1 1000 && (!decide (e.f0 = 3) || sentB p e.f2))
def goodFrom (p : List Ev1) : List Ev1 → Bool
  | [] => true
  | e :: r => evOk p e && goodFrom (p ++ [e]) r
def events (l : List Ev1) : Bool := goodFrom [] l && decide (l.length ≤ 60)
theorem take_snoc {α : Type} {l : List α} {n : Nat} {x : α} (h : l[n]? = some x) : l.take (n + 1) = l.take n ++ [x] := by
  obtain ⟨hn, rfl⟩ := List.getElem?_eq_some_iff.1 h
  exact List.take_succ_eq_append_getElem hn
theorem dec_len (n : Nat) : decide ((n : Int) ≤ 60) = decide (n ≤ 60) := by by_cases h : n ≤ 60 <;> simp [h] <;> omega

/-! ### the impl's look -/
theorem impl_events_ev (l : List Ev1) (hl : l.length ≤ 1048576) : Ev (fun k => impl_areEvents.f k l) (events l) := by
  have key := drop_ind0 l (fun n rest => (∀ o ∈ l.take n, o.f0 = 2 → 1 ≤ o.f2 ∧ o.f2 ≤ 1000) → ∀ s t : List (Int × Bool), (∀ x, mgetD s x false = sentB (l.take n) x) → (∀ x, mgetD t x false = takenB (l.take n) x) →
      Ev (fun k => impl_areEvents.l0 k l l (l.length : Int) (n : Int) s t) (goodFrom (l.take n) rest && decide (l.length ≤ 60))) ?_ ?_
  · have := key (by simp) [] [] (by intro x; simp [mgetD, mget, sentB]) (by intro x; simp [mgetD, mget, takenB])
    simpa [impl_areEvents.f, events] using this
  · intro _ s t _ _
    refine ev_last (fun k => ?_)
    simp only [impl_areEvents.l0]
    rw [if_neg (by omega)]
    simp [goodFrom, dec_len]
  · intro n e rest hn he _ ih hp s t hs ht
    have hts := take_snoc he
    refine ev_shift ?_
    simp only [impl_areEvents.l0, rdE he, in_f, Option.bind_some, hs, ht, wrap_nat (show n < 9223372036854775807 by omega)]
    refine ev_if_pos (by omega) (ev_if_pos (by omega) (ev_if_pos (by omega) ?_))
    have hno : goodFrom (l.take n) (e :: rest) = (evOk (l.take n) e && goodFrom (l.take n ++ [e]) rest) := rfl
    rw [hts] at ih
    by_cases h1 : e.f0 = 1
    · simp only [if_pos h1]
      have hi := ih (fun o ho h2 => by
        rcases List.mem_append.1 ho with h | h
        · exact hp o h h2
        · simp at h; subst h; omega) s t (fun x => by rw [hs x]; simp [sentB, h1]) (fun x => by rw [ht x]; simp [takenB, h1])
      by_cases hpr : 0 ≤ e.f1 ∧ e.f1 ≤ 5
      · simp only [decide_eq_true hpr, if_true]
        by_cases hm : e.f2 = 0
        · have : evOk (l.take n) e = true := by simp [evOk, inI, h1, hpr, hm]
          rw [hno, this, Bool.true_and]
          exact ev_if_pos hm hi
        · have : evOk (l.take n) e = false := by simp [evOk, h1, hm]
          rw [hno, this, Bool.false_and, Bool.false_and]
          exact ev_if_neg hm (ev_some _)
      · have : evOk (l.take n) e = false := by simp [evOk, inI, hpr]
        rw [hno, this, Bool.false_and, Bool.false_and]
        simp only [decide_eq_false hpr, Bool.false_eq_true, if_false]
        exact ev_some _
    · simp only [if_neg h1]
      by_cases h2 : e.f0 = 2
      · simp only [if_pos h2]
        by_cases hpr : 0 ≤ e.f1 ∧ e.f1 ≤ 5
        · simp only [decide_eq_true hpr, if_true]
          by_cases hr : 1 ≤ e.f2 ∧ e.f2 ≤ 1000
          · simp only [decide_eq_true hr, if_true]
            cases hsb : sentB (l.take n) e.f2 with
            | true =>
              have : evOk (l.take n) e = false := by
                have : sameB (l.take n) 2 e.f2 = true := hsb
                simp [evOk, h2, this]
              rw [hno, this, Bool.false_and, Bool.false_and]
              simpa using ev_some false
            | false =>
              have : evOk (l.take n) e = true := by
                have : sameB (l.take n) 2 e.f2 = false := hsb
                simp [evOk, inI, h2, this, hpr, hr]
              rw [hno, this, Bool.true_and]
              simp only [Bool.false_eq_true, if_false]
              refine ih (fun o ho h3 => ?_) _ t (fun x => ?_) (fun x => ?_)
              · rcases List.mem_append.1 ho with h | h
                · exact hp o h h3
                · simp at h; subst h; exact hr
              · rw [mgetD_mput, hs x]
                by_cases hx : x = e.f2
                · subst hx; simp [sentB, h2]
                · have hx' : ¬ e.f2 = x := fun h => hx h.symm
                  simp [sentB, h2, hx, hx']
              · rw [ht x]; simp [takenB, h2]
          · have : evOk (l.take n) e = false := by simp [evOk, inI, h2, hr]
            rw [hno, this, Bool.false_and, Bool.false_and]
            simp only [decide_eq_false hr, Bool.false_eq_true, if_false]
            exact ev_some _
        · have : evOk (l.take n) e = false := by simp [evOk, inI, hpr]
          rw [hno, this, Bool.false_and, Bool.false_and]
          simp only [decide_eq_false hpr, Bool.false_eq_true, if_false]
          exact ev_some _
      · simp only [if_neg h2]
        by_cases h3 : e.f0 = 3
        · simp only [if_pos h3]
          by_cases hpr : 0 ≤ e.f1 ∧ e.f1 ≤ 5
          · simp only [decide_eq_true hpr, if_true]
            cases hsb : sentB (l.take n) e.f2 with
            | false =>
              have : evOk (l.take n) e = false := by simp [evOk, h3, hsb]
              rw [hno, this, Bool.false_and, Bool.false_and]
              simpa using ev_some false
            | true =>
              have hr : 1 ≤ e.f2 ∧ e.f2 ≤ 1000 := by
                unfold sentB at hsb
                simp only [List.any_eq_true, Bool.and_eq_true, decide_eq_true_eq] at hsb
                obtain ⟨o, ho, q1, q2⟩ := hsb
                rw [← q2]; exact hp o ho q1
              simp only [if_true]
              cases htb : takenB (l.take n) e.f2 with
              | true =>
                have : evOk (l.take n) e = false := by
                  have : sameB (l.take n) 3 e.f2 = true := htb
                  simp [evOk, h3, this]
                rw [hno, this, Bool.false_and, Bool.false_and]
                simpa using ev_some false
              | false =>
                have : evOk (l.take n) e = true := by
                  have : sameB (l.take n) 3 e.f2 = false := htb
                  simp [evOk, inI, h3, this, hpr, hr, hsb]
                rw [hno, this, Bool.true_and]
                simp only [Bool.false_eq_true, if_false]
                refine ih (fun o ho h4 => ?_) s _ (fun x => ?_) (fun x => ?_)
                · rcases List.mem_append.1 ho with h | h
                  · exact hp o h h4
                  · simp at h; subst h; omega
                · rw [hs x]; simp [sentB, h3]
                · rw [mgetD_mput, ht x]
                  by_cases hx : x = e.f2
                  · subst hx; simp [takenB, h3]
                  · have hx' : ¬ e.f2 = x := fun h => hx h.symm
                    simp [takenB, h3, hx, hx']
          · have : evOk (l.take n) e = false := by simp [evOk, inI, hpr]
            rw [hno, this, Bool.false_and, Bool.false_and]
            simp only [decide_eq_false hpr, Bool.false_eq_true, if_false]
            exact ev_some _
        · have : evOk (l.take n) e = false := by
            have : ¬ (1 ≤ e.f0 ∧ e.f0 ≤ 3) := by omega
            simp [evOk, inI, this]
          rw [hno, this, Bool.false_and, Bool.false_and]
          simp only [if_neg h3]
          exact ev_some _
/-! ### the spec's look -/
theorem spec_inner (l : List Ev1) (n : Nat) (hn : n < l.length) (hl : l.length ≤ 1048576) (e : Ev1) (r : Bool) (H : Ev (fun k => spec_GoodEvents.l0 k l l (l.length : Int) ((n + 1 : Nat) : Int)) r) :
    Ev (fun k => spec_GoodEvents.l1 k l false l (l.length : Int) (n : Int) (l.take n) ((l.take n).length : Int) 0 e.f0 e.f1 e.f2) (!sameB (l.take n) e.f0 e.f2 && inI e.f2 1 1000 && (!decide (e.f0 = 3) || sentB (l.take n) e.f2) && r) := by
  have hlen : (l.take n).length = n := by simp; omega
  generalize hp : l.take n = p at hlen ⊢
  have key := drop_ind0 p (fun j rest => ∀ s, Ev (fun k => spec_GoodEvents.l1 k l s l (l.length : Int) (n : Int) p (p.length : Int) (j : Int) e.f0 e.f1 e.f2) (!sameB rest e.f0 e.f2 && inI e.f2 1 1000 && (!decide (e.f0 = 3) || (s || sentB rest e.f2)) && r)) ?_ ?_
  · simpa using key false
  · intro s
    refine ev_shift ?_
    simp only [spec_GoodEvents.l1, l1In_f, Option.bind_some, wrap_nat (show n < 9223372036854775807 by omega)]
    refine ev_if_neg (by omega) ?_
    have h0 : sameB [] e.f0 e.f2 = false := rfl
    have h1 : sentB [] e.f2 = false := rfl
    rw [h0, h1, Bool.not_false, Bool.true_and, Bool.or_false]
    cases hi : inI e.f2 1 1000 with
    | false =>
      unfold inI at hi
      simp only [hi, Bool.false_eq_true, if_false, Bool.false_and]
      exact ev_some _
    | true =>
      unfold inI at hi
      simp only [hi, if_true, Bool.true_and]
      by_cases h3 : e.f0 = 3
      · simp only [if_pos h3, h3, decide_true, Bool.not_true, Bool.false_or]
        cases s with
        | true => simpa using H
        | false => simpa using ev_some false
      · simp only [if_neg h3, h3, decide_false, Bool.not_false, Bool.true_or, Bool.true_and]
        exact H
  · intro j o rest hj ho _ ih s
    refine ev_shift ?_
    simp only [spec_GoodEvents.l1, rdE ho, wrap_nat (show j < 9223372036854775807 by omega)]
    refine ev_if_pos (by omega) (ev_if_pos (by omega) (ev_if_pos (by omega) ?_))
    by_cases hm : o.f2 = e.f2
    · by_cases hk : o.f0 = e.f0
      · simp only [if_pos hm, if_pos hk]
        have : sameB (o :: rest) e.f0 e.f2 = true := by simp [sameB, hm, hk]
        rw [this]
        simpa using ev_some false
      · simp only [if_pos hm, if_neg hk]
        have h1 : sameB (o :: rest) e.f0 e.f2 = sameB rest e.f0 e.f2 := by simp [sameB, hk]
        have h2 : sentB (o :: rest) e.f2 = (decide (o.f0 = 2) || sentB rest e.f2) := by simp [sentB, hm]
        rw [h1, h2]
        cases s with
        | true => simpa using ih true
        | false =>
          have := ih (decide (o.f0 = 2))
          simp only [Bool.false_eq_true, if_false, Bool.false_or]
          have hb : (o.f0 == 2) = decide (o.f0 = 2) := by by_cases h : o.f0 = 2 <;> simp [h]
          rw [hb]
          exact this
    · simp only [if_neg hm]
      have h1 : sameB (o :: rest) e.f0 e.f2 = sameB rest e.f0 e.f2 := by simp [sameB, hm]
      have h2 : sentB (o :: rest) e.f2 = sentB rest e.f2 := by simp [sentB, hm]
      rw [h1, h2]
      cases s with
      | true => simpa using ih true
      | false => simpa using ih false
theorem spec_events_ev (l : List Ev1) (hl : l.length ≤ 1048576) : Ev (fun k => spec_GoodEvents.f k l) (events l) := by
  have key := drop_ind0 l (fun n rest => Ev (fun k => spec_GoodEvents.l0 k l l (l.length : Int) (n : Int)) (goodFrom (l.take n) rest && decide (l.length ≤ 60))) ?_ ?_
  · simpa [spec_GoodEvents.f, events] using key
  · refine ev_last (fun k => ?_)
    simp only [spec_GoodEvents.l0]
    rw [if_neg (by omega)]
    simp [goodFrom, dec_len]
  · intro n e rest hn he _ ih
    have hno : goodFrom (l.take n) (e :: rest) = (evOk (l.take n) e && goodFrom (l.take n ++ [e]) rest) := rfl
    rw [take_snoc he] at ih
    refine ev_shift ?_
    simp only [spec_GoodEvents.l0, rdE he, l1In_f, Option.bind_some]
    refine ev_if_pos (by omega) (ev_if_pos (by omega) (ev_if_pos (by omega) ?_))
    by_cases hk : 1 ≤ e.f0 ∧ e.f0 ≤ 3
    · simp only [decide_eq_true hk, if_true]
      by_cases hpr : 0 ≤ e.f1 ∧ e.f1 ≤ 5
      · simp only [decide_eq_true hpr, Bool.not_true]
        refine ev_shift ?_
        simp only [spec_GoodEvents.j1, Bool.false_eq_true, if_false, wrap_nat (show n < 9223372036854775807 by omega)]
        by_cases h1 : e.f0 = 1
        · simp only [if_pos h1]
          by_cases hm : e.f2 = 0
          · have : evOk (l.take n) e = true := by simp [evOk, inI, h1, hpr, hm]
            rw [hno, this, Bool.true_and]
            exact ev_if_pos hm ih
          · have : evOk (l.take n) e = false := by simp [evOk, h1, hm]
            rw [hno, this, Bool.false_and, Bool.false_and]
            exact ev_if_neg hm (ev_some _)
        · simp only [if_neg h1, Option.bind_some]
          refine ev_if_pos (by omega) (ev_if_pos (by omega) ?_)
          have := spec_inner l n hn hl e _ ih
          have e1 : evOk (l.take n) e = (!sameB (l.take n) e.f0 e.f2 && inI e.f2 1 1000 && (!decide (e.f0 = 3) || sentB (l.take n) e.f2)) := by
            have a1 : inI e.f0 1 3 = true := decide_eq_true hk
            have a2 : inI e.f1 0 5 = true := decide_eq_true hpr
            simp only [evOk, a1, a2, if_neg h1, Bool.true_and]
          rw [hno, e1, Bool.and_assoc]
          simpa using this
      · have : evOk (l.take n) e = false := by simp [evOk, inI, hpr]
        rw [hno, this, Bool.false_and, Bool.false_and]
        simp only [decide_eq_false hpr, Bool.not_false]
        refine ev_last (fun k => ?_)
        simp only [spec_GoodEvents.j1, if_true]
    · have : evOk (l.take n) e = false := by simp [evOk, inI, hk]
      rw [hno, this, Bool.false_and, Bool.false_and]
      simp only [decide_eq_false hk, Bool.false_eq_true, if_false]
      refine ev_last (fun k => ?_)
      simp only [spec_GoodEvents.j1, if_true]
/-! ### the law's own functions -/
def cvE (x : S93) : Ev1 := ⟨x.f0, x.f1, x.f2⟩
theorem rdL {xs : List S93} {n : Nat} {x : S93} (h : xs[n]? = some x) : rd_T93 xs (n : Int) = x := by simp [rd_T93, h]
theorem szEventS_f (l : List S93) (a : Int) (hl : l.length ≤ 140737488355328) (h0 : 0 ≤ a) (h1 : a ≤ 1048576) : laws_szEventS.f l a = some (if a < l.length then -1 else a - l.length) := by
  have w : wrap64 (a - (l.length : Int)) = a - l.length := wrap_of (by omega) (by omega)
  unfold laws_szEventS.f
  rw [w]
  by_cases h : a < (l.length : Int)
  · rw [if_pos (by omega), if_pos h]
  · rw [if_neg (by omega), if_neg h]
theorem toEventS_ev (l : List S93) (hl : l.length ≤ 1048576) : Ev (fun k => laws_toEventS.f k l) (l.map cvE) := by
  have key := fill_loop (fun k xs i => laws_toEventS.l0 k l xs i) l cvE (fun k xs => by simp [laws_toEventS.l0]) (fun n x xs hx hn hl' H => ?_) z91
  · refine Ev.congr (fun k => ?_) key
    simp only [laws_toEventS.f]
    rw [if_pos (by omega), if_pos (by omega)]
    simp
  · refine Ev.step (fun k => ?_) H
    simp only [laws_toEventS.l0, laws_toEvent.f, Option.bind_some]
    rw [if_pos (by omega), if_pos (by omega), if_pos (by omega), wrap_nat (by omega), rdL hx]
    simp [cvE]
theorem eqEvent_f (a b c : Int) : laws_eqEvent.f a b c a b c = some true := by simp [laws_eqEvent.f]
theorem eqEventS_ev (l : List Ev1) (hl : l.length ≤ 140737488355328) : Ev (fun k => laws_eqEventS.f k l l) true := by
  have key := eq_loop (fun k i => laws_eqEventS.l0 k l l i) l l (fun _ _ => true) rfl (fun k => by simp [laws_eqEventS.l0]) (fun n x y r hx hy hn _ he H => ?_) (fun n x y hx hy hn _ he => by cases he)
  · rw [zip_self_all (fun _ _ => true) (by simp) l] at key
    refine Ev.congr (fun k => ?_) key
    simp [laws_eqEventS.f]
  · refine Ev.step (fun k => ?_) H
    simp only [laws_eqEventS.l0]
    rw [if_pos (by omega), if_pos (by omega), if_pos (by omega), wrap_nat (by omega), eqEvent_f]
    simp

theorem FnExactGoodEvents : laws_FnExactGoodEvents.Pure := by
  intro l hb _
  have hl : l.length ≤ 140737488355328 := by omega
  apply Ev.rounds
  unfold laws_FnExactGoodEvents.f
  simp only [szEventS_f l 1048576 hl (by omega) (by omega), Option.bind_some]
  by_cases hs : (1048576 : Int) < (l.length : Int)
  · simp only [if_pos hs]
    exact ev_some _
  · simp only [if_neg hs]
    have h2 : ¬ (1048576 - (l.length : Int) < 0) := by omega
    simp only [if_neg h2]
    have hto := toEventS_ev l (by omega)
    have hle : (l.map cvE).length ≤ 1048576 := by simp; omega
    refine Ev.bind hto (Ev.bind (spec_events_ev _ hle) (Ev.bind hto (Ev.bind (a := events (l.map cvE)) ?_ ?_)))
    · unfold impl_GoodEvents.f
      exact Ev.bind (impl_events_ev _ hle) (ev_some _)
    · simp only [bne_self_eq_false, Bool.false_eq_true, if_false]
      refine Ev.bind hto (Ev.bind (eqEventS_ev _ (by omega)) ?_)
      simpa using ev_some true

end Go.Proofs.Ytjbaakfamepbeaa.Pure
