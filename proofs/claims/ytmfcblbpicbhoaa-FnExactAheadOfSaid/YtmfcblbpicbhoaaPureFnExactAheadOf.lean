/- The pure statement of the law FnExactAheadOf: at every list of events and every two places the printed law answers true. -/
import Derived.Test.YtmfcblbpicbhoaaSayFnExactAheadOf
import Derived.Test.YtmfcblbpicbhoaaAid
namespace Go.Proofs.Ytmfcblbpicbhoaa.Pure
open Go.RowKit Go.Proofs.Ytmfcblbpicbhoaa.PFnExactAheadOf Go.Proofs.YtmfcblbpicbhoaaW.PrintWords Go.Proofs.YtmfcblbpicbhoaaW.PrintLast Go.Proofs.Ytmfcblbpicbhoaa.Aid Go.Proofs.Ytmfcblbpicbhoaa.MapW
set_option linter.unusedVariables false
set_option linter.unusedSimpArgs false

theorem in_f (a b c : Int) : impl_in.f a b c = some (decide (b ≤ a ∧ a ≤ c)) := by
  unfold impl_in.f
  by_cases h : a ≥ b
  · rw [if_pos h]; simp [h]
  · rw [if_neg h]; simp [h]
theorem l1In_f (a b c : Int) : spec_l1In.f a b c = some (decide (b ≤ a ∧ a ≤ c)) := by
  unfold spec_l1In.f
  by_cases h : a ≥ b
  · rw [if_pos h]; simp [h]
  · rw [if_neg h]; simp [h]

abbrev Ev1 := S50
theorem rdE {xs : List Ev1} {n : Nat} {x : Ev1} (h : xs[n]? = some x) : rd_T50 xs (n : Int) = x := by simp [rd_T50, h]
def sentB (p : List Ev1) (x : Int) : Bool := p.any fun o => decide (o.f0 = 2) && decide (o.f2 = x)
def takenB (p : List Ev1) (x : Int) : Bool := p.any fun o => decide (o.f0 = 3) && decide (o.f2 = x)
def sameB (p : List Ev1) (k x : Int) : Bool := p.any fun o => decide (o.f0 = k) && decide (o.f2 = x)
def inI (x a b : Int) : Bool := decide (a ≤ x ∧ x ≤ b)
/-- Is an event good behind these? -/
def evOk (p : List Ev1) (e : Ev1) : Bool := inI e.f0 1 3 && inI e.f1 0 5 && (if e.f0 = 1 then decide (e.f2 = 0) else !sameB p e.f0 e.f2 && inI e.f2 1 1000 && (!decide (e.f0 = 3) || sentB p e.f2))
def goodFrom (p : List Ev1) : List Ev1 → Bool
  | [] => true
  | e :: r => evOk p e && goodFrom (p ++ [e]) r
def events (l : List Ev1) : Bool := goodFrom [] l && decide (l.length ≤ 60)
theorem dec_len (n : Nat) : decide ((n : Int) ≤ 60) = decide (n ≤ 60) := by by_cases h : n ≤ 60 <;> simp [h] <;> omega

/-! ### the impl's look -/
theorem impl_events_ev (l : List Ev1) (hl : l.length ≤ 1048576) : Ev (fun k => impl_areEvents.f k l) (events l) := by
  have key := drop_ind0 l (fun n rest => (∀ o ∈ l.take n, o.f0 = 2 → 1 ≤ o.f2 ∧ o.f2 ≤ 1000) → ∀ s t : List (Int × Bool), (∀ x, mgetD s x false = sentB (l.take n) x) → (∀ x, mgetD t x false = takenB (l.take n) x) →
      Ev (fun k => impl_areEvents.l0 k l l (l.length : Int) (n : Int) s t) (goodFrom (l.take n) rest && decide (l.length ≤ 60))) ?_ ?_
  · have := key (by simp) [] [] (by intro x; simp [mgetD, mget, sentB]) (by intro x; simp [mgetD, mget, takenB])
    simpa [impl_areEvents.f, events] using this
  · intro _ s t _ _
    refine ev_last (fun k => ?_)
    simp only [impl_areEvents.l0]
    rw [if_neg (by omega)]
    simp [goodFrom, dec_len]
  · intro n e rest hn he _ ih hp s t hs ht
    have hts := take_snoc he
    refine ev_shift ?_
    simp only [impl_areEvents.l0, rdE he, in_f, Option.bind_some, hs, ht, wrap_nat (show n < 9223372036854775807 by omega)]
    refine ev_if_pos (by omega) (ev_if_pos (by omega) (ev_if_pos (by omega) ?_))
    have hno : goodFrom (l.take n) (e :: rest) = (evOk (l.take n) e && goodFrom (l.take n ++ [e]) rest) := rfl
    rw [hts] at ih
    by_cases h1 : e.f0 = 1
    · simp only [if_pos h1]
      have hi := ih (fun o ho h2 => by
        rcases List.mem_append.1 ho with h | h
        · exact hp o h h2
        · simp at h; subst h; omega) s t (fun x => by rw [hs x]; simp [sentB, h1]) (fun x => by rw [ht x]; simp [takenB, h1])
      by_cases hpr : 0 ≤ e.f1 ∧ e.f1 ≤ 5
      · simp only [decide_eq_true hpr, if_true]
        by_cases hm : e.f2 = 0
        · have : evOk (l.take n) e = true := by simp [evOk, inI, h1, hpr, hm]
          rw [hno, this, Bool.true_and]
          exact ev_if_pos hm hi
        · have : evOk (l.take n) e = false := by simp [evOk, h1, hm]
          rw [hno, this, Bool.false_and, Bool.false_and]
          exact ev_if_neg hm (ev_some _)
      · have : evOk (l.take n) e = false := by simp [evOk, inI, hpr]
        rw [hno, this, Bool.false_and, Bool.false_and]
        simp only [decide_eq_false hpr, Bool.false_eq_true, if_false]
        exact ev_some _
    · simp only [if_neg h1]
      by_cases h2 : e.f0 = 2
      · simp only [if_pos h2]
        by_cases hpr : 0 ≤ e.f1 ∧ e.f1 ≤ 5
        · simp only [decide_eq_true hpr, if_true]
          by_cases hr : 1 ≤ e.f2 ∧ e.f2 ≤ 1000
          · simp only [decide_eq_true hr, if_true]
            cases hsb : sentB (l.take n) e.f2 with
            | true =>
              have : evOk (l.take n) e = false := by
                have : sameB (l.take n) 2 e.f2 = true := hsb
                simp [evOk, h2, this]
              rw [hno, this, Bool.false_and, Bool.false_and]
              simpa using ev_some false
            | false =>
              have : evOk (l.take n) e = true := by
                have : sameB (l.take n) 2 e.f2 = false := hsb
                simp [evOk, inI, h2, this, hpr, hr]
              rw [hno, this, Bool.true_and]
              simp only [Bool.false_eq_true, if_false]
              refine ih (fun o ho h3 => ?_) _ t (fun x => ?_) (fun x => ?_)
              · rcases List.mem_append.1 ho with h | h
                · exact hp o h h3
                · simp at h; subst h; exact hr
              · rw [mgetD_mput, hs x]
                by_cases hx : x = e.f2
                · subst hx; simp [sentB, h2]
                · have hx' : ¬ e.f2 = x := fun h => hx h.symm
                  simp [sentB, h2, hx, hx']
              · rw [ht x]; simp [takenB, h2]
          · have : evOk (l.take n) e = false := by simp [evOk, inI, h2, hr]
            rw [hno, this, Bool.false_and, Bool.false_and]
            simp only [decide_eq_false hr, Bool.false_eq_true, if_false]
            exact ev_some _
        · have : evOk (l.take n) e = false := by simp [evOk, inI, hpr]
          rw [hno, this, Bool.false_and, Bool.false_and]
          simp only [decide_eq_false hpr, Bool.false_eq_true, if_false]
          exact ev_some _
      · simp only [if_neg h2]
        by_cases h3 : e.f0 = 3
        · simp only [if_pos h3]
          by_cases hpr : 0 ≤ e.f1 ∧ e.f1 ≤ 5
          · simp only [decide_eq_true hpr, if_true]
            cases hsb : sentB (l.take n) e.f2 with
            | false =>
              have : evOk (l.take n) e = false := by simp [evOk, h3, hsb]
              rw [hno, this, Bool.false_and, Bool.false_and]
              simpa using ev_some false
            | true =>
              have hr : 1 ≤ e.f2 ∧ e.f2 ≤ 1000 := by
                unfold sentB at hsb
                simp only [List.any_eq_true, Bool.and_eq_true, decide_eq_true_eq] at hsb
                obtain ⟨o, ho, q1, q2⟩ := hsb
                rw [← q2]; exact hp o ho q1
              simp only [if_true]
              cases htb : takenB (l.take n) e.f2 with
              | true =>
                have : evOk (l.take n) e = false := by
                  have : sameB (l.take n) 3 e.f2 = true := htb
                  simp [evOk, h3, this]
                rw [hno, this, Bool.false_and, Bool.false_and]
                simpa using ev_some false
              | false =>
                have : evOk (l.take n) e = true := by
                  have : sameB (l.take n) 3 e.f2 = false := htb
                  simp [evOk, inI, h3, this, hpr, hr, hsb]
                rw [hno, this, Bool.true_and]
                simp only [Bool.false_eq_true, if_false]
                refine ih (fun o ho h4 => ?_) s _ (fun x => ?_) (fun x => ?_)
                · rcases List.mem_append.1 ho with h | h
                  · exact hp o h h4
                  · simp at h; subst h; omega
                · rw [hs x]; simp [sentB, h3]
                · rw [mgetD_mput, ht x]
                  by_cases hx : x = e.f2
                  · subst hx; simp [takenB, h3]
                  · have hx' : ¬ e.f2 = x := fun h => hx h.symm
                    simp [takenB, h3, hx, hx']
          · have : evOk (l.take n) e = false := by simp [evOk, inI, hpr]
            rw [hno, this, Bool.false_and, Bool.false_and]
            simp only [decide_eq_false hpr, Bool.false_eq_true, if_false]
            exact ev_some _
        · have : evOk (l.take n) e = false := by
            have : ¬ (1 ≤ e.f0 ∧ e.f0 ≤ 3) := by omega
            simp [evOk, inI, this]
          rw [hno, this, Bool.false_and, Bool.false_and]
          simp only [if_neg h3]
          exact ev_some _
/-! ### the spec's look -/
theorem spec_inner (l : List Ev1) (n : Nat) (hn : n < l.length) (hl : l.length ≤ 1048576) (e : Ev1) (r : Bool) (H : Ev (fun k => spec_GoodEvents.l0 k l l (l.length : Int) ((n + 1 : Nat) : Int)) r) :
    Ev (fun k => spec_GoodEvents.l1 k l false l (l.length : Int) (n : Int) (l.take n) ((l.take n).length : Int) 0 e.f0 e.f1 e.f2) (!sameB (l.take n) e.f0 e.f2 && inI e.f2 1 1000 && (!decide (e.f0 = 3) || sentB (l.take n) e.f2) && r) := by
  have hlen : (l.take n).length = n := by simp; omega
  generalize hp : l.take n = p at hlen ⊢
  have key := drop_ind0 p (fun j rest => ∀ s, Ev (fun k => spec_GoodEvents.l1 k l s l (l.length : Int) (n : Int) p (p.length : Int) (j : Int) e.f0 e.f1 e.f2) (!sameB rest e.f0 e.f2 && inI e.f2 1 1000 && (!decide (e.f0 = 3) || (s || sentB rest e.f2)) && r)) ?_ ?_
  · simpa using key false
  · intro s
    refine ev_shift ?_
    simp only [spec_GoodEvents.l1, l1In_f, Option.bind_some, wrap_nat (show n < 9223372036854775807 by omega)]
    refine ev_if_neg (by omega) ?_
    have h0 : sameB [] e.f0 e.f2 = false := rfl
    have h1 : sentB [] e.f2 = false := rfl
    rw [h0, h1, Bool.not_false, Bool.true_and, Bool.or_false]
    cases hi : inI e.f2 1 1000 with
    | false =>
      unfold inI at hi
      simp only [hi, Bool.false_eq_true, if_false, Bool.false_and]
      exact ev_some _
    | true =>
      unfold inI at hi
      simp only [hi, if_true, Bool.true_and]
      by_cases h3 : e.f0 = 3
      · simp only [if_pos h3, h3, decide_true, Bool.not_true, Bool.false_or]
        cases s with
        | true => simpa using H
        | false => simpa using ev_some false
      · simp only [if_neg h3, h3, decide_false, Bool.not_false, Bool.true_or, Bool.true_and]
        exact H
  · intro j o rest hj ho _ ih s
    refine ev_shift ?_
    simp only [spec_GoodEvents.l1, rdE ho, wrap_nat (show j < 9223372036854775807 by omega)]
    refine ev_if_pos (by omega) (ev_if_pos (by omega) (ev_if_pos (by omega) ?_))
    by_cases hm : o.f2 = e.f2
    · by_cases hk : o.f0 = e.f0
      · simp only [if_pos hm, if_pos hk]
        have : sameB (o :: rest) e.f0 e.f2 = true := by simp [sameB, hm, hk]
        rw [this]
        simpa using ev_some false
      · simp only [if_pos hm, if_neg hk]
        have h1 : sameB (o :: rest) e.f0 e.f2 = sameB rest e.f0 e.f2 := by simp [sameB, hk]
        have h2 : sentB (o :: rest) e.f2 = (decide (o.f0 = 2) || sentB rest e.f2) := by simp [sentB, hm]
        rw [h1, h2]
        cases s with
        | true => simpa using ih true
        | false =>
          have := ih (decide (o.f0 = 2))
          simp only [Bool.false_eq_true, if_false, Bool.false_or]
          have hb : (o.f0 == 2) = decide (o.f0 = 2) := by by_cases h : o.f0 = 2 <;> simp [h]
          rw [hb]
          exact this
    · simp only [if_neg hm]
      have h1 : sameB (o :: rest) e.f0 e.f2 = sameB rest e.f0 e.f2 := by simp [sameB, hm]
      have h2 : sentB (o :: rest) e.f2 = sentB rest e.f2 := by simp [sentB, hm]
      rw [h1, h2]
      cases s with
      | true => simpa using ih true
      | false => simpa using ih false
theorem spec_events_ev (l : List Ev1) (hl : l.length ≤ 1048576) : Ev (fun k => spec_GoodEvents.f k l) (events l) := by
  have key := drop_ind0 l (fun n rest => Ev (fun k => spec_GoodEvents.l0 k l l (l.length : Int) (n : Int)) (goodFrom (l.take n) rest && decide (l.length ≤ 60))) ?_ ?_
  · simpa [spec_GoodEvents.f, events] using key
  · refine ev_last (fun k => ?_)
    simp only [spec_GoodEvents.l0]
    rw [if_neg (by omega)]
    simp [goodFrom, dec_len]
  · intro n e rest hn he _ ih
    have hno : goodFrom (l.take n) (e :: rest) = (evOk (l.take n) e && goodFrom (l.take n ++ [e]) rest) := rfl
    rw [take_snoc he] at ih
    refine ev_shift ?_
    simp only [spec_GoodEvents.l0, rdE he, l1In_f, Option.bind_some]
    refine ev_if_pos (by omega) (ev_if_pos (by omega) (ev_if_pos (by omega) ?_))
    by_cases hk : 1 ≤ e.f0 ∧ e.f0 ≤ 3
    · simp only [decide_eq_true hk, if_true]
      by_cases hpr : 0 ≤ e.f1 ∧ e.f1 ≤ 5
      · simp only [decide_eq_true hpr, Bool.not_true]
        refine ev_shift ?_
        simp only [spec_GoodEvents.j1, Bool.false_eq_true, if_false, wrap_nat (show n < 9223372036854775807 by omega)]
        by_cases h1 : e.f0 = 1
        · simp only [if_pos h1]
          by_cases hm : e.f2 = 0
          · have : evOk (l.take n) e = true := by simp [evOk, inI, h1, hpr, hm]
            rw [hno, this, Bool.true_and]
            exact ev_if_pos hm ih
          · have : evOk (l.take n) e = false := by simp [evOk, h1, hm]
            rw [hno, this, Bool.false_and, Bool.false_and]
            exact ev_if_neg hm (ev_some _)
        · simp only [if_neg h1, Option.bind_some]
          refine ev_if_pos (by omega) (ev_if_pos (by omega) ?_)
          have := spec_inner l n hn hl e _ ih
          have e1 : evOk (l.take n) e = (!sameB (l.take n) e.f0 e.f2 && inI e.f2 1 1000 && (!decide (e.f0 = 3) || sentB (l.take n) e.f2)) := by
            have a1 : inI e.f0 1 3 = true := decide_eq_true hk
            have a2 : inI e.f1 0 5 = true := decide_eq_true hpr
            simp only [evOk, a1, a2, if_neg h1, Bool.true_and]
          rw [hno, e1, Bool.and_assoc]
          simpa using this
      · have : evOk (l.take n) e = false := by simp [evOk, inI, hpr]
        rw [hno, this, Bool.false_and, Bool.false_and]
        simp only [decide_eq_false hpr, Bool.not_false]
        refine ev_last (fun k => ?_)
        simp only [spec_GoodEvents.j1, if_true]
    · have : evOk (l.take n) e = false := by simp [evOk, inI, hk]
      rw [hno, this, Bool.false_and, Bool.false_and]
      simp only [decide_eq_false hk, Bool.false_eq_true, if_false]
      refine ev_last (fun k => ?_)
      simp only [spec_GoodEvents.j1, if_true]
/-! ### the law's own functions -/
def cvE (x : S52) : Ev1 := ⟨x.f0, x.f1, x.f2⟩
theorem rdL {xs : List S52} {n : Nat} {x : S52} (h : xs[n]? = some x) : rd_T52 xs (n : Int) = x := by simp [rd_T52, h]
theorem szEventS_f (l : List S52) (a : Int) (hl : l.length ≤ 140737488355328) (h0 : 0 ≤ a) (h1 : a ≤ 1048576) : laws_szEventS.f l a = some (if a < l.length then -1 else a - l.length) := by
  have w : wrap64 (a - (l.length : Int)) = a - l.length := wrap_of (by omega) (by omega)
  unfold laws_szEventS.f
  rw [w]
  by_cases h : a < (l.length : Int)
  · rw [if_pos (by omega), if_pos h]
  · rw [if_neg (by omega), if_neg h]
theorem toEventS_ev (l : List S52) (hl : l.length ≤ 1048576) : Ev (fun k => laws_toEventS.f k l) (l.map cvE) := by
  have key := fill_loop (fun k xs i => laws_toEventS.l0 k l xs i) l cvE (fun k xs => by simp [laws_toEventS.l0]) (fun n x xs hx hn hl' H => ?_) z50
  · refine Ev.congr (fun k => ?_) key
    simp only [laws_toEventS.f]
    rw [if_pos (by omega), if_pos (by omega)]
    simp
  · refine Ev.step (fun k => ?_) H
    simp only [laws_toEventS.l0, laws_toEvent.f, Option.bind_some]
    rw [if_pos (by omega), if_pos (by omega), if_pos (by omega), wrap_nat (by omega), rdL hx]
    simp [cvE]
theorem eqEvent_f (a b c : Int) : laws_eqEvent.f a b c a b c = some true := by simp [laws_eqEvent.f]
theorem eqEventS_ev (l : List Ev1) (hl : l.length ≤ 140737488355328) : Ev (fun k => laws_eqEventS.f k l l) true := by
  have key := eq_loop (fun k i => laws_eqEventS.l0 k l l i) l l (fun _ _ => true) rfl (fun k => by simp [laws_eqEventS.l0]) (fun n x y r hx hy hn _ he H => ?_) (fun n x y hx hy hn _ he => by cases he)
  · rw [zip_self_all (fun _ _ => true) (by simp) l] at key
    refine Ev.congr (fun k => ?_) key
    simp [laws_eqEventS.f]
  · refine Ev.step (fun k => ?_) H
    simp only [laws_eqEventS.l0]
    rw [if_pos (by omega), if_pos (by omega), if_pos (by omega), wrap_nat (by omega), eqEvent_f]
    simp

/-! ### what an event depends on -/
def procP (e o : Ev1) : Bool := decide (o.f1 = e.f1)
def sendP (e o : Ev1) : Bool := decide (e.f0 = 3) && decide (o.f0 = 2) && decide (o.f2 = e.f2)
/-- The last place below n that fits, or -1. -/
def lastP (l : List Ev1) (p : Ev1 → Bool) : Nat → Int
  | 0 => -1
  | n + 1 => if (l[n]?.any p) = true then (n : Int) else lastP l p n
/-- The places below n that fit. -/
def idxP (l : List Ev1) (p : Ev1 → Bool) : Nat → List Int
  | 0 => []
  | n + 1 => if (l[n]?.any p) = true then idxP l p n ++ [(n : Int)] else idxP l p n
theorem lastP_lt (l : List Ev1) (p : Ev1 → Bool) : ∀ n, -1 ≤ lastP l p n ∧ lastP l p n < n
  | 0 => by simp [lastP]
  | n + 1 => by
    have := lastP_lt l p n
    unfold lastP
    split <;> omega
theorem idxP_len (l : List Ev1) (p : Ev1 → Bool) : ∀ n, (idxP l p n).length ≤ n
  | 0 => by simp [idxP]
  | n + 1 => by
    have := idxP_len l p n
    unfold idxP
    split
    · simp; omega
    · omega
theorem lastP_yes {l : List Ev1} {p : Ev1 → Bool} {n : Nat} {o : Ev1} (h : l[n]? = some o) (hp : p o = true) : lastP l p (n + 1) = n := by simp [lastP, h, hp]
theorem lastP_no {l : List Ev1} {p : Ev1 → Bool} {n : Nat} {o : Ev1} (h : l[n]? = some o) (hp : p o = false) : lastP l p (n + 1) = lastP l p n := by simp [lastP, h, hp]
theorem idxP_yes {l : List Ev1} {p : Ev1 → Bool} {n : Nat} {o : Ev1} (h : l[n]? = some o) (hp : p o = true) : idxP l p (n + 1) = idxP l p n ++ [(n : Int)] := by simp [idxP, h, hp]
theorem idxP_no {l : List Ev1} {p : Ev1 → Bool} {n : Nat} {o : Ev1} (h : l[n]? = some o) (hp : p o = false) : idxP l p (n + 1) = idxP l p n := by simp [idxP, h, hp]
/-- Upwards to m. -/
theorem up_ind (m : Nat) (M : Nat → Prop) (hd : M m) (hs : ∀ n, n < m → M (n + 1) → M n) : ∀ n, n ≤ m → M n := by
  intro n hn
  induction hk : m - n generalizing n with
  | zero => have : n = m := by omega
            subst this; exact hd
  | succ d ih => exact hs n (by omega) (ih (n + 1) (by omega) (by omega))
theorem l2Causes_ev (l : List Ev1) (i : Nat) (e : Ev1) (he : l[i]? = some e) (hl : l.length ≤ 1048576) : Ev (fun k => spec_l2Causes.f k l (i : Int)) (lastP l (procP e) i, lastP l (sendP e) i) := by
  have hi : i < l.length := (List.getElem?_eq_some_iff.1 he).1
  have key := up_ind i (fun n => Ev (fun k => spec_l2Causes.l0 k l (i : Int) (lastP l (procP e) n) (lastP l (sendP e) n) (l.take i) (i : Int) (n : Int)) (lastP l (procP e) i, lastP l (sendP e) i)) ?_ ?_ 0 (by omega)
  · refine Ev.congr (fun k => ?_) key
    simp only [spec_l2Causes.f]
    rw [if_pos (by omega), if_pos (by omega)]
    have : (l.take i).length = i := by simp; omega
    simp [this, lastP]
  · refine ev_last (fun k => ?_)
    simp only [spec_l2Causes.l0]
    rw [if_neg (by omega)]
  · intro n hn ih
    have hlen : (l.take i).length = i := by simp; omega
    have hx : l[n]? = some l[n] := List.getElem?_eq_getElem (by omega)
    have hx' : (l.take i)[n]? = some l[n] := by rw [List.getElem?_take_of_lt hn]; exact hx
    generalize l[n] = o at hx hx'
    refine ev_shift ?_
    simp only [spec_l2Causes.l0, rdE he, rdE hx', hlen, wrap_nat (show n < 9223372036854775807 by omega)]
    refine ev_if_pos (by omega) (ev_if_pos (by omega) (ev_if_pos (by omega) (ev_if_pos (by omega) (ev_if_pos (by omega) ?_))))
    by_cases h1 : o.f1 = e.f1
    · have q1 : procP e o = true := by simp [procP, h1]
      by_cases h2 : e.f0 = 3 ∧ o.f0 = 2 ∧ o.f2 = e.f2
      · have q2 : sendP e o = true := by simp [sendP, h2]
        rw [lastP_yes hx q1, lastP_yes hx q2] at ih
        simpa [h1, h2] using ih
      · have q2 : sendP e o = false := by
          simp only [sendP, Bool.and_eq_false_iff, decide_eq_false_iff_not]
          by_cases a : e.f0 = 3 <;> by_cases b : o.f0 = 2 <;> by_cases c : o.f2 = e.f2 <;> simp_all
        rw [lastP_yes hx q1, lastP_no hx q2] at ih
        by_cases a : e.f0 = 3 <;> by_cases b : o.f0 = 2 <;> by_cases c : o.f2 = e.f2 <;> simp_all
    · have q1 : procP e o = false := by simp [procP, h1]
      by_cases h2 : e.f0 = 3 ∧ o.f0 = 2 ∧ o.f2 = e.f2
      · have q2 : sendP e o = true := by simp [sendP, h2]
        rw [lastP_no hx q1, lastP_yes hx q2] at ih
        simpa [h1, h2] using ih
      · have q2 : sendP e o = false := by
          simp only [sendP, Bool.and_eq_false_iff, decide_eq_false_iff_not]
          by_cases a : e.f0 = 3 <;> by_cases b : o.f0 = 2 <;> by_cases c : o.f2 = e.f2 <;> simp_all
        rw [lastP_no hx q1, lastP_no hx q2] at ih
        by_cases a : e.f0 = 3 <;> by_cases b : o.f0 = 2 <;> by_cases c : o.f2 = e.f2 <;> simp_all
def ownP (l : List Ev1) (e : Ev1) (i : Nat) : List Int := if lastP l (procP e) i ≥ 0 then [lastP l (procP e) i] else []
def causesP (l : List Ev1) (e : Ev1) (i : Nat) : List Int := ownP l e i ++ idxP l (sendP e) i
theorem causes_ev (l : List Ev1) (i : Nat) (e : Ev1) (he : l[i]? = some e) (hl : l.length ≤ 1048576) : Ev (fun k => impl_causes.f k l (i : Int)) (causesP l e i) := by
  have hi : i < l.length := (List.getElem?_eq_some_iff.1 he).1
  have low : ∀ st : List Int, st.length ≤ 1 → Ev (fun k => impl_causes.j1 k l (i : Int) st) (st ++ idxP l (sendP e) i) := by
    intro st hst
    have key := up_ind i (fun n => Ev (fun k => impl_causes.l1 k l (i : Int) (st ++ idxP l (sendP e) n) (i : Int) (n : Int)) (st ++ idxP l (sendP e) i)) ?_ ?_ 0 (by omega)
    · refine ev_shift (Ev.congr (fun k => ?_) key)
      simp [impl_causes.j1, idxP]
    · refine ev_last (fun k => ?_)
      simp only [impl_causes.l1]
      rw [if_neg (by omega)]
    · intro n hn ih
      have hx : l[n]? = some l[n] := List.getElem?_eq_getElem (by omega)
      generalize l[n] = o at hx
      have hlen := idxP_len l (sendP e) n
      refine ev_shift ?_
      simp only [impl_causes.l1, rdE he, rdE hx, wrap_nat (show n < 9223372036854775807 by omega)]
      refine ev_if_pos (by omega) (ev_if_pos (by omega) (ev_if_pos (by omega) ?_))
      by_cases h1 : e.f0 = 3
      · refine ev_if_pos h1 (ev_if_pos (by omega) (ev_if_pos (by omega) ?_))
        by_cases h2 : o.f0 = 2
        · refine ev_if_pos h2 ?_
          by_cases h3 : o.f2 = e.f2
          · refine ev_if_pos h3 (ev_if_pos (by simp; omega) ?_)
            rw [idxP_yes hx (by simp [sendP, h1, h2, h3])] at ih
            simpa using ih
          · refine ev_if_neg h3 ?_
            rw [idxP_no hx (by simp [sendP, h3])] at ih
            exact ih
        · refine ev_if_neg h2 ?_
          rw [idxP_no hx (by simp [sendP, h2])] at ih
          exact ih
      · refine ev_if_neg h1 ?_
        rw [idxP_no hx (by simp [sendP, h1])] at ih
        exact ih
  have up : ∀ j, j ≤ i → lastP l (procP e) i = lastP l (procP e) j → Ev (fun k => impl_causes.l0 k l (i : Int) [] ((j : Int) - 1)) (causesP l e i) := by
    intro j
    induction j with
    | zero =>
      intro _ h
      refine ev_shift ?_
      simp only [impl_causes.l0]
      refine ev_if_neg (by omega) ?_
      have : ownP l e i = [] := by simp [ownP, h, lastP]
      unfold causesP
      rw [this]
      exact low [] (by simp)
    | succ j ih =>
      intro hj h
      have hx : l[j]? = some l[j] := List.getElem?_eq_getElem (by omega)
      generalize l[j] = o at hx
      refine ev_shift ?_
      have e1 : ((j + 1 : Nat) : Int) - 1 = (j : Int) := by omega
      simp only [impl_causes.l0, e1, rdE he, rdE hx]
      refine ev_if_pos (by omega) (ev_if_pos (by omega) (ev_if_pos (by omega) (ev_if_pos (by omega) (ev_if_pos (by omega) ?_))))
      by_cases h1 : o.f1 = e.f1
      · refine ev_if_pos h1 (ev_if_pos (by simp) ?_)
        rw [lastP_yes hx (by simp [procP, h1])] at h
        have : ownP l e i = [(j : Int)] := by simp [ownP, h]
        unfold causesP
        rw [this]
        exact low [(j : Int)] (by simp)
      · refine ev_if_neg h1 ?_
        rw [lastP_no hx (by simp [procP, h1])] at h
        have w : wrap64 ((j : Int) - 1) = (j : Int) - 1 := wrap_of (by omega) (by omega)
        rw [w]
        exact ih (by omega) h
  refine Ev.congr (fun k => ?_) (up i (Nat.le_refl _) rfl)
  unfold impl_causes.f
  rw [wrap_of (by omega) (by omega)]
/-- A message is sent once. -/
theorem good_snoc : ∀ (r p : List Ev1), goodFrom p r = true → ∀ (n : Nat) (e : Ev1), r[n]? = some e → evOk (p ++ r.take n) e = true
  | [], _, _, n, e, he => by simp at he
  | x :: r, p, h, n, e, he => by
    simp only [goodFrom, Bool.and_eq_true] at h
    cases n with
    | zero => simp at he; subst he; simpa using h.1
    | succ n =>
      have := good_snoc r (p ++ [x]) h.2 n e (by simpa using he)
      simpa using this
theorem good_at {l : List Ev1} (h : events l = true) {n : Nat} {e : Ev1} (he : l[n]? = some e) : evOk (l.take n) e = true := by
  have h' : goodFrom [] l = true := by
    have := h
    simp only [events, Bool.and_eq_true] at this
    exact this.1
  simpa using good_snoc l [] h' n e he
theorem send_once {l : List Ev1} (h : events l = true) {j n : Nat} {a b : Ev1} (hjn : j < n) (ha : l[j]? = some a) (hb : l[n]? = some b) (h2 : a.f0 = 2) (h3 : b.f0 = 2) : a.f2 ≠ b.f2 := by
  intro heq
  have := good_at h hb
  have ne1 : b.f0 ≠ 1 := by omega
  simp only [evOk, if_neg ne1, Bool.and_eq_true, Bool.not_eq_true'] at this
  have hs := this.2.1.1
  have : sameB (l.take n) b.f0 b.f2 = true := by
    simp only [sameB, List.any_eq_true]
    exact ⟨a, List.mem_of_getElem? (by rw [List.getElem?_take_of_lt hjn]; exact ha), by simp [h2, h3, heq]⟩
  rw [this] at hs
  cases hs
theorem idx_one {l : List Ev1} (h : events l = true) (e : Ev1) : ∀ n, idxP l (sendP e) n = if lastP l (sendP e) n ≥ 0 then [lastP l (sendP e) n] else []
  | 0 => by simp [idxP, lastP]
  | n + 1 => by
    have ih := idx_one h e n
    cases hx : l[n]? with
    | none => simp only [idxP, lastP, hx]; simpa using ih
    | some o =>
      cases hp : sendP e o with
      | false => rw [idxP_no hx hp, lastP_no hx hp]; exact ih
      | true =>
        rw [idxP_yes hx hp, lastP_yes hx hp]
        have : idxP l (sendP e) n = [] := by
          have none : ∀ m, m ≤ n → idxP l (sendP e) m = [] := by
            intro m
            induction m with
            | zero => intro _; rfl
            | succ m ih2 =>
              intro hm
              cases hy : l[m]? with
              | none => simp only [idxP, hy]; simpa using ih2 (by omega)
              | some q =>
                have : sendP e q = false := by
                  cases hq : sendP e q with
                  | false => rfl
                  | true =>
                    simp only [sendP, Bool.and_eq_true, decide_eq_true_eq] at hp hq
                    exact absurd (hq.2.trans hp.2.symm) (send_once h (by omega) hy hx hq.1.2 hp.1.2)
                rw [idxP_no hy this]
                exact ih2 (by omega)
          exact none n (Nat.le_refl _)
        rw [this]
        simp

/-! ### clocks of many processes -/
abbrev Cv := S55
def mkC (v : List Int) : Cv := ⟨v⟩
theorem rdV {xs : List Cv} {n : Nat} {x : Cv} (h : xs[n]? = some x) : rd_T55 xs (n : Int) = x := by simp [rd_T55, h]
def gr (a b : List Int) : List Int := List.zipWith mx a b
theorem gr_len {a b : List Int} (h : a.length = 6) (h2 : b.length = 6) : (gr a b).length = 6 := by simp [gr, h, h2]
theorem gr_get {a b : List Int} (h : a.length = 6) (h2 : b.length = 6) (p : Nat) (hp : p < 6) : (gr a b).getD p 0 = mx (a.getD p 0) (b.getD p 0) := by
  simp only [gr, List.getD_eq_getElem?_getD, List.getElem?_zipWith]
  rw [List.getElem?_eq_getElem (show p < a.length by omega), List.getElem?_eq_getElem (show p < b.length by omega)]
  rfl
theorem greater_ev (a b : List Int) (h : a.length = 6) (h2 : b.length = 6) : Ev (fun k => impl_greater.f k a b) (gr a b) := by
  have key := up_ind 6 (fun n => Ev (fun k => impl_greater.l0 k b ((gr a b).take n) a (a.length : Int) (n : Int)) (gr a b)) ?_ ?_ 0 (by omega)
  · exact Ev.congr (fun k => rfl) key
  · refine ev_last (fun k => ?_)
    simp only [impl_greater.l0]
    rw [if_neg (by omega), List.take_of_length_le (by rw [gr_len h h2]; exact Nat.le_refl _)]
  · intro n hn ih
    have hx : a[n]? = some (a[n]'(by omega)) := List.getElem?_eq_getElem (by omega)
    have hy : b[n]? = some (b[n]'(by omega)) := List.getElem?_eq_getElem (by omega)
    generalize (a[n]'(by omega)) = x at hx
    generalize (b[n]'(by omega)) = y at hy
    have hg : (gr a b)[n]? = some (mx x y) := by simp [gr, List.getElem?_zipWith, hx, hy]
    rw [take_snoc hg] at ih
    refine ev_shift ?_
    simp only [impl_greater.l0, rd_nat hx, rd_nat hy, wrap_nat (show n < 9223372036854775807 by omega)]
    exact ev_if_pos (by omega) (ev_if_pos (by omega) (ev_if_pos (by omega) (ev_if_pos (by omega) (ev_if_pos (by simp; omega) ih))))
def foldC (vs : List (List Int)) (ks : List Int) : List Int := ks.foldl (fun a k => gr a (vs.getD k.toNat [])) (List.replicate 6 0)
def vecOf (l : List Ev1) (vs : List (List Int)) (e : Ev1) (i : Nat) : List Int := (foldC vs (causesP l e i)).set e.f1.toNat (wrap64 ((foldC vs (causesP l e i)).getD e.f1.toNat 0 + 1))
def vecsTo (l : List Ev1) : Nat → List (List Int)
  | 0 => []
  | n + 1 => match l[n]? with
    | some e => vecsTo l n ++ [vecOf l (vecsTo l n) e n]
    | none => vecsTo l n
theorem vecsTo_next {l : List Ev1} {n : Nat} {e : Ev1} (he : l[n]? = some e) : vecsTo l (n + 1) = vecsTo l n ++ [vecOf l (vecsTo l n) e n] := by simp only [vecsTo, he]
theorem vecsTo_len (l : List Ev1) : ∀ n, n ≤ l.length → (vecsTo l n).length = n
  | 0, _ => rfl
  | n + 1, h => by
    have ih := vecsTo_len l n (by omega)
    rw [vecsTo_next (List.getElem?_eq_getElem (show n < l.length by omega))]
    simp [ih]
theorem causes_two {l : List Ev1} (h : events l = true) (e : Ev1) (n : Nat) : causesP l e n = (if lastP l (procP e) n ≥ 0 then [lastP l (procP e) n] else []) ++ (if lastP l (sendP e) n ≥ 0 then [lastP l (sendP e) n] else []) := by
  unfold causesP ownP
  rw [idx_one h e n]
theorem causes_in {l : List Ev1} (h : events l = true) (e : Ev1) (n : Nat) : ∀ k ∈ causesP l e n, 0 ≤ k ∧ k < n := by
  intro k hk
  have b1 := lastP_lt l (procP e) n
  have b2 := lastP_lt l (sendP e) n
  rw [causes_two h] at hk
  rcases List.mem_append.1 hk with h | h
  · split at h
    · simp at h; omega
    · simp at h
  · split at h
    · simp at h; omega
    · simp at h
theorem foldC_len (vs : List (List Int)) (hv : ∀ v ∈ vs, v.length = 6) : ∀ (ks : List Int) (a : List Int), a.length = 6 → (∀ k ∈ ks, 0 ≤ k ∧ k < vs.length) → (ks.foldl (fun a k => gr a (vs.getD k.toNat [])) a).length = 6
  | [], a, h, _ => h
  | k :: ks, a, h, hk => by
    have hb := hk k List.mem_cons_self
    have : (vs.getD k.toNat []).length = 6 := by
      rw [List.getD_eq_getElem?_getD, List.getElem?_eq_getElem (show k.toNat < vs.length by omega)]
      exact hv _ (List.getElem_mem _)
    exact foldC_len vs hv ks _ (gr_len h this) (fun q hq => hk q (List.mem_cons_of_mem _ hq))
theorem vecsTo_six {l : List Ev1} (h : events l = true) : ∀ n, n ≤ l.length → ∀ v ∈ vecsTo l n, v.length = 6
  | 0, _ => by intro v hv; simp [vecsTo] at hv
  | n + 1, hn => by
    intro v hv
    have ih := vecsTo_six h n (by omega)
    rw [vecsTo_next (List.getElem?_eq_getElem (show n < l.length by omega))] at hv
    rcases List.mem_append.1 hv with hv | hv
    · exact ih v hv
    · simp at hv
      subst hv
      unfold vecOf
      rw [List.length_set]
      refine foldC_len _ ih _ _ (by simp) (fun k hk => ?_)
      rw [vecsTo_len l n (by omega)]
      exact causes_in h _ _ k hk
theorem vecs_at (l : List Ev1) (n : Nat) (e : Ev1) (he : l[n]? = some e) : ∀ m, n < m → m ≤ l.length → (vecsTo l m)[n]? = some (vecOf l (vecsTo l n) e n)
  | 0, h, _ => by omega
  | m + 1, h, hm => by
    rw [vecsTo_next (List.getElem?_eq_getElem (show m < l.length by omega))]
    by_cases hnm : n = m
    · subst hnm
      have : l[n] = e := by
        have := List.getElem?_eq_getElem (show n < l.length by omega)
        rw [this] at he; exact Option.some.inj he
      rw [this]
      have hlen := vecsTo_len l n (by omega)
      rw [List.getElem?_append_right (by omega), hlen]
      simp
    · rw [List.getElem?_append_left (by rw [vecsTo_len l m (by omega)]; omega)]
      exact vecs_at l n e he m (by omega) (by omega)
theorem foldV (l : List Ev1) (vs : List (List Int)) (n : Nat) (e : Ev1) (ks : List Int) (v : List Cv) (hn : n < l.length) (hl : l.length ≤ 1048576) (ho : vs.length = n) (h6 : ∀ v ∈ vs, v.length = 6) (hp : 0 ≤ e.f1 ∧ e.f1 ≤ 5) (hk : ∀ k ∈ ks, 0 ≤ k ∧ k < n) (hks : ks.length ≤ 1048577)
    (H : Ev (fun k => impl_vectors.l0 k l (vs.map mkC ++ [mkC ((foldC vs ks).set e.f1.toNat (wrap64 ((foldC vs ks).getD e.f1.toNat 0 + 1)))]) l (l.length : Int) ((n + 1 : Nat) : Int)) v) :
    Ev (fun k => impl_vectors.l1 k l (vs.map mkC) (List.replicate 6 0) l (l.length : Int) (n : Int) ks (ks.length : Int) 0 e.f0 e.f1 e.f2) v := by
  have key := drop_ind0 ks (fun j rest => ∀ a : List Int, a.length = 6 → rest.foldl (fun a k => gr a (vs.getD k.toNat [])) a = foldC vs ks → Ev (fun k => impl_vectors.l1 k l (vs.map mkC) a l (l.length : Int) (n : Int) ks (ks.length : Int) (j : Int) e.f0 e.f1 e.f2) v) ?_ ?_
  · exact key _ (by simp) rfl
  · intro a ha hacc
    simp only [List.foldl_nil] at hacc
    subst hacc
    refine ev_shift ?_
    simp only [impl_vectors.l1]
    refine ev_if_neg (by omega) (ev_if_pos (by omega) (ev_if_pos (by omega) (ev_if_pos (by simp; omega) ?_)))
    rw [wrap_nat (by omega)]
    exact H
  · intro j x rest hj hx _ ih a ha hacc
    have hb := hk x (List.mem_of_getElem? hx)
    have hlt : x.toNat < vs.length := by omega
    have hv : (vs.map mkC)[x.toNat]? = some (mkC vs[x.toNat]) := by rw [List.getElem?_map, List.getElem?_eq_getElem hlt]; rfl
    have hr : rd_T55 (vs.map mkC) x = mkC vs[x.toNat] := by
      have := rdV hv
      rwa [Int.toNat_of_nonneg hb.1] at this
    have hg : vs.getD x.toNat [] = vs[x.toNat] := by rw [List.getD_eq_getElem?_getD, List.getElem?_eq_getElem hlt]; rfl
    have h6x : vs[x.toNat].length = 6 := h6 _ (List.getElem_mem hlt)
    refine ev_shift ?_
    simp only [impl_vectors.l1, rd_nat hx, hr, wrap_nat (show j < 9223372036854775807 by omega)]
    refine ev_if_pos (by omega) (ev_if_pos (by omega) (ev_if_pos (by omega) (ev_if_pos hb.1 (ev_if_pos (by simp; omega) (ev_bind (greater_ev a _ ha h6x) ?_)))))
    rw [List.foldl_cons, hg] at hacc
    exact ih _ (gr_len ha h6x) hacc
theorem proc_in {l : List Ev1} (h : events l = true) {n : Nat} {e : Ev1} (he : l[n]? = some e) : 0 ≤ e.f1 ∧ e.f1 ≤ 5 := by
  have := good_at h he
  simp only [evOk, Bool.and_eq_true, inI, decide_eq_true_eq] at this
  exact this.1.2
theorem vectors_ev (l : List Ev1) (hg : events l = true) (hl : l.length ≤ 1048576) : Ev (fun k => impl_vectors.f k l) ((vecsTo l l.length).map mkC) := by
  have key := up_ind l.length (fun n => Ev (fun k => impl_vectors.l0 k l ((vecsTo l n).map mkC) l (l.length : Int) (n : Int)) ((vecsTo l l.length).map mkC)) ?_ ?_ 0 (by omega)
  · exact Ev.congr (fun k => rfl) key
  · refine ev_last (fun k => ?_)
    simp only [impl_vectors.l0]
    rw [if_neg (by omega)]
  · intro n hn ih
    have he : l[n]? = some l[n] := List.getElem?_eq_getElem hn
    generalize l[n] = e at he
    have hlen := vecsTo_len l n (by omega)
    rw [vecsTo_next he] at ih
    refine ev_shift ?_
    simp only [impl_vectors.l0, rdE he]
    refine ev_if_pos (by omega) (ev_if_pos (by omega) (ev_if_pos (by omega) (ev_if_pos (by omega) (ev_bind (causes_ev l n e he hl) ?_))))
    refine foldV l (vecsTo l n) n e (causesP l e n) _ hn hl hlen (vecsTo_six hg n (by omega)) (proc_in hg he) (causes_in hg e n) ?_ ?_
    · rw [causes_two hg]
      split <;> split <;> simp
    · simpa [vecOf] using ih

/-! ### the law of the clocks -/
def W (l : List Ev1) (n p : Nat) : Int := ((vecsTo l l.length).getD n []).getD p 0
def M (l : List Ev1) (c : Int) (p : Nat) : Int := if c ≥ 0 then W l c.toNat p else 0
def cntP (l : List Ev1) (p : Nat) : Nat → Nat
  | 0 => 0
  | n + 1 => cntP l p n + (if (l[n]?.any fun o => decide (o.f1 = (p : Int))) = true then 1 else 0)
theorem cntP_mono (l : List Ev1) (p : Nat) {a b : Nat} (h : a ≤ b) : cntP l p a ≤ cntP l p b := by
  induction b with
  | zero => have : a = 0 := by omega
            subst this; exact Nat.le_refl _
  | succ b ih =>
    by_cases hab : a = b + 1
    · subst hab; exact Nat.le_refl _
    · have := ih (by omega)
      simp only [cntP]
      omega
theorem cntP_le (l : List Ev1) (p : Nat) : ∀ n, cntP l p n ≤ n
  | 0 => Nat.le_refl _
  | n + 1 => by
    have := cntP_le l p n
    simp only [cntP]
    split <;> omega
theorem cnt_last (l : List Ev1) (e : Ev1) (hp : 0 ≤ e.f1) : ∀ n, n ≤ l.length → (lastP l (procP e) n < 0 → cntP l e.f1.toNat n = 0) ∧ (∀ c : Nat, lastP l (procP e) n = c → c < n ∧ cntP l e.f1.toNat n = cntP l e.f1.toNat c + 1 ∧ ∃ o, l[c]? = some o ∧ o.f1 = e.f1)
  | 0, _ => by
    constructor
    · intro _; rfl
    · intro c h; simp only [lastP] at h; omega
  | n + 1, hn => by
    have ih := cnt_last l e hp n (by omega)
    have hx : l[n]? = some l[n] := List.getElem?_eq_getElem (by omega)
    generalize l[n] = o at hx
    have hpc : ((e.f1.toNat : Nat) : Int) = e.f1 := Int.toNat_of_nonneg hp
    by_cases h1 : o.f1 = e.f1
    · rw [lastP_yes hx (by simp [procP, h1])]
      constructor
      · intro h; omega
      · intro c hc
        have : c = n := by omega
        subst this
        refine ⟨by omega, ?_, o, hx, h1⟩
        simp [cntP, hx, h1, hpc]
    · rw [lastP_no hx (by simp [procP, h1])]
      have : cntP l e.f1.toNat (n + 1) = cntP l e.f1.toNat n := by simp [cntP, hx, hpc, h1]
      rw [this]
      exact ⟨ih.1, fun c hc => by
        obtain ⟨a, b, c2⟩ := ih.2 c hc
        exact ⟨by omega, b, c2⟩⟩
theorem mx_le {a b c : Int} (h : a ≤ c) (h2 : b ≤ c) : mx a b ≤ c := by unfold mx; split <;> omega
theorem mx_left (a b : Int) : a ≤ mx a b := by unfold mx; split <;> omega
theorem mx_right (a b : Int) : b ≤ mx a b := by unfold mx; split <;> omega
theorem mx_or {a b m : Int} (h : m ≤ mx a b) : m ≤ a ∨ m ≤ b := by unfold mx at h; split at h <;> omega
/-- How a clock comes out of those that it depends on, while nothing wraps. -/
theorem W_rec {l : List Ev1} (hg : events l = true) {n : Nat} {e : Ev1} (he : l[n]? = some e) (p : Nat) (hp : p < 6)
    (hb : ∀ c : Nat, c < n → 0 ≤ W l c p ∧ W l c p ≤ 1000) : W l n p = mx (mx 0 (M l (lastP l (procP e) n) p)) (M l (lastP l (sendP e) n) p) + (if p = e.f1.toNat then 1 else 0) := by
  have hn : n < l.length := (List.getElem?_eq_some_iff.1 he).1
  have hv := vecs_at l n e he l.length hn (Nat.le_refl _)
  have h6 := vecsTo_six hg n (by omega)
  have hlen := vecsTo_len l n (by omega)
  have hW : W l n p = (vecOf l (vecsTo l n) e n).getD p 0 := by
    unfold W
    rw [List.getD_eq_getElem?_getD (l := vecsTo l l.length), hv]
    rfl
  have hpr := proc_in hg he
  have old : ∀ c : Int, 0 ≤ c → c < n → ((vecsTo l n).getD c.toNat []).length = 6 ∧ ((vecsTo l n).getD c.toNat []).getD p 0 = M l c p := by
    intro c h0 h1
    have hc : c.toNat < n := by omega
    have hce : l[c.toNat]? = some l[c.toNat] := List.getElem?_eq_getElem (by omega)
    have a1 := vecs_at l c.toNat _ hce n hc (by omega)
    have a2 := vecs_at l c.toNat _ hce l.length (by omega) (Nat.le_refl _)
    refine ⟨?_, ?_⟩
    · rw [List.getD_eq_getElem?_getD, a1]
      exact h6 _ (List.mem_of_getElem? a1)
    · unfold M W
      rw [if_pos h0, List.getD_eq_getElem?_getD (l := vecsTo l n), a1, List.getD_eq_getElem?_getD (l := vecsTo l l.length), a2]
  have fold : (foldC (vecsTo l n) (causesP l e n)).getD p 0 = mx (mx 0 (M l (lastP l (procP e) n) p)) (M l (lastP l (sendP e) n) p) ∧ (foldC (vecsTo l n) (causesP l e n)).length = 6 := by
    have b1 := lastP_lt l (procP e) n
    have b2 := lastP_lt l (sendP e) n
    have z : (List.replicate 6 (0 : Int)).getD p 0 = 0 := by
      rw [List.getD_eq_getElem?_getD, List.getElem?_replicate]
      split <;> rfl
    have step : ∀ (a : List Int) (c : Int), a.length = 6 → 0 ≤ a.getD p 0 → -1 ≤ c → c < n → (((if c ≥ 0 then [c] else []).foldl (fun a k => gr a ((vecsTo l n).getD k.toNat [])) a).getD p 0 = mx (a.getD p 0) (M l c p) ∧ ((if c ≥ 0 then [c] else []).foldl (fun a k => gr a ((vecsTo l n).getD k.toNat [])) a).length = 6) := by
      intro a c ha h0 h1 h2
      by_cases hc : c ≥ 0
      · obtain ⟨o1, o2⟩ := old c hc h2
        simp only [if_pos hc, List.foldl_cons, List.foldl_nil]
        exact ⟨by rw [gr_get ha o1 p hp, o2], gr_len ha o1⟩
      · simp only [if_neg hc, List.foldl_nil]
        refine ⟨?_, ha⟩
        unfold M mx
        rw [if_neg hc]
        split <;> omega
    unfold foldC
    rw [causes_two hg, List.foldl_append]
    obtain ⟨s1, s2⟩ := step (List.replicate 6 0) _ (by simp) (by rw [z]; omega) b1.1 b1.2
    obtain ⟨t1, t2⟩ := step _ _ s2 (by rw [s1, z]; exact mx_left _ _) b2.1 b2.2
    rw [z] at s1
    rw [s1] at t1
    exact ⟨t1, t2⟩
  obtain ⟨f1, f2⟩ := fold
  have small : mx (mx 0 (M l (lastP l (procP e) n) p)) (M l (lastP l (sendP e) n) p) ≤ 1000 ∧ 0 ≤ mx (mx 0 (M l (lastP l (procP e) n) p)) (M l (lastP l (sendP e) n) p) := by
    have bound : ∀ c : Int, c < n → M l c p ≤ 1000 := by
      intro c hc
      unfold M
      split
      · exact (hb c.toNat (by omega)).2
      · omega
    refine ⟨mx_le (mx_le (by omega) (bound _ (lastP_lt l (procP e) n).2)) (bound _ (lastP_lt l (sendP e) n).2), ?_⟩
    exact Int.le_trans (mx_left 0 _) (mx_left _ _)
  rw [hW]
  unfold vecOf
  by_cases hpe : p = e.f1.toNat
  · subst hpe
    rw [if_pos rfl, f1, List.getD_eq_getElem?_getD, List.getElem?_set_self (by omega)]
    simp only [Option.getD_some]
    exact wrap_of (by omega) (by omega)
  · rw [if_neg hpe, List.getD_eq_getElem?_getD, List.getElem?_set_ne (fun h => hpe h.symm), ← List.getD_eq_getElem?_getD, f1]
    omega
theorem W_bound {l : List Ev1} (hg : events l = true) (h60 : l.length ≤ 60) (p : Nat) (hp : p < 6) : ∀ n, n < l.length → 0 ≤ W l n p ∧ W l n p ≤ (cntP l p (n + 1) : Int) := by
  intro n
  induction n using Nat.strongRecOn with
  | ind n ih =>
    intro hn
    have he : l[n]? = some l[n] := List.getElem?_eq_getElem hn
    generalize l[n] = e at he
    have hb : ∀ c : Nat, c < n → 0 ≤ W l c p ∧ W l c p ≤ 1000 := fun c hc => by
      have h1 := ih c hc (by omega)
      have h2 := cntP_le l p (c + 1)
      omega
    rw [W_rec hg he p hp hb]
    have hm : ∀ c : Int, c < n → M l c p ≤ (cntP l p n : Int) := by
      intro c hc
      unfold M
      split
      · have h1 := (ih c.toNat (by omega) (by omega)).2
        have h2 := cntP_mono l p (show c.toNat + 1 ≤ n by omega)
        omega
      · omega
    have h1 : mx (mx 0 (M l (lastP l (procP e) n) p)) (M l (lastP l (sendP e) n) p) ≤ (cntP l p n : Int) := mx_le (mx_le (by omega) (hm _ (lastP_lt l (procP e) n).2)) (hm _ (lastP_lt l (sendP e) n).2)
    have h2 : 0 ≤ mx (mx 0 (M l (lastP l (procP e) n) p)) (M l (lastP l (sendP e) n) p) := Int.le_trans (mx_left 0 _) (mx_left _ _)
    have hpr := proc_in hg he
    by_cases hpe : p = e.f1.toNat
    · have : cntP l p (n + 1) = cntP l p n + 1 := by
        have : e.f1 = (p : Int) := by omega
        simp [cntP, he, this]
      rw [if_pos hpe, this]
      omega
    · have := cntP_mono l p (show n ≤ n + 1 by omega)
      rw [if_neg hpe]
      omega
theorem W_small {l : List Ev1} (hg : events l = true) (h60 : l.length ≤ 60) {p : Nat} (hp : p < 6) {n : Nat} (hn : n < l.length) : ∀ c : Nat, c < n → 0 ≤ W l c p ∧ W l c p ≤ 1000 := fun c hc => by
  have h1 := W_bound hg h60 p hp c (by omega)
  have h2 := cntP_le l p (c + 1)
  omega
/-- An event's own place in its process. -/
theorem W_own {l : List Ev1} (hg : events l = true) (h60 : l.length ≤ 60) : ∀ n e, l[n]? = some e → W l n e.f1.toNat = (cntP l e.f1.toNat n : Int) + 1 := by
  intro n
  induction n using Nat.strongRecOn with
  | ind n ih =>
    intro e he
    have hn : n < l.length := (List.getElem?_eq_some_iff.1 he).1
    have hpr := proc_in hg he
    have hp6 : e.f1.toNat < 6 := by omega
    rw [W_rec hg he _ hp6 (W_small hg h60 hp6 hn), if_pos rfl]
    have b1 := lastP_lt l (procP e) n
    have b2 := lastP_lt l (sendP e) n
    have cl := cnt_last l e hpr.1 n (by omega)
    have hs : M l (lastP l (sendP e) n) e.f1.toNat ≤ (cntP l e.f1.toNat n : Int) := by
      unfold M
      split
      · have h1 := (W_bound hg h60 e.f1.toNat hp6 (lastP l (sendP e) n).toNat (by omega)).2
        have h2 := cntP_mono l e.f1.toNat (show (lastP l (sendP e) n).toNat + 1 ≤ n by omega)
        omega
      · omega
    have ho : mx 0 (M l (lastP l (procP e) n) e.f1.toNat) = (cntP l e.f1.toNat n : Int) := by
      unfold M
      split
      · rename_i hc
        obtain ⟨c1, c2, o, c3, c4⟩ := cl.2 (lastP l (procP e) n).toNat (by omega)
        have := ih _ c1 o c3
        rw [c4] at this
        rw [this, c2]
        unfold mx
        split <;> omega
      · rename_i hc
        have := cl.1 (by omega)
        rw [this]
        rfl
    rw [ho]
    congr 1
    unfold mx
    split <;> omega

/-! ### the marks of what lies behind an event -/
def setI (out : List Bool) (c : Int) : List Bool := if c ≥ 0 then out.set c.toNat true else out
def stepM (l : List Ev1) (out : List Bool) (k : Nat) : List Bool := match l[k]? with
  | some e => if out.getD k false = true then setI (setI out (lastP l (procP e) k)) (lastP l (sendP e) k) else out
  | none => out
def runM (l : List Ev1) : Nat → List Bool → List Bool
  | 0, out => out
  | k + 1, out => runM l k (stepM l out k)
theorem setI_len (out : List Bool) (c : Int) : (setI out c).length = out.length := by unfold setI; split <;> simp
theorem setI_up {out : List Bool} {c : Int} {n : Nat} (h : out.getD n false = true) : (setI out c).getD n false = true := by
  unfold setI
  split
  · rw [List.getD_eq_getElem?_getD] at h ⊢
    by_cases hn : c.toNat = n
    · have hlt : n < out.length := by
        by_cases h2 : n < out.length
        · exact h2
        · rw [List.getElem?_eq_none (by omega)] at h; cases h
      rw [hn, List.getElem?_set_self hlt]; rfl
    · rw [List.getElem?_set_ne hn]; exact h
  · exact h
theorem setI_new {out : List Bool} {c : Int} {n : Nat} (h : (setI out c).getD n false = true) : out.getD n false = true ∨ (c ≥ 0 ∧ n = c.toNat) := by
  unfold setI at h
  split at h
  · rename_i hc
    by_cases hn : c.toNat = n
    · exact .inr ⟨hc, hn.symm⟩
    · rw [List.getD_eq_getElem?_getD, List.getElem?_set_ne hn, ← List.getD_eq_getElem?_getD] at h
      exact .inl h
  · exact .inl h
theorem setI_at {out : List Bool} {c : Int} (h0 : c ≥ 0) (h : c.toNat < out.length) : (setI out c).getD c.toNat false = true := by
  unfold setI
  rw [if_pos h0, List.getD_eq_getElem?_getD, List.getElem?_set_self h]; rfl
theorem stepM_len (l : List Ev1) (out : List Bool) (k : Nat) : (stepM l out k).length = out.length := by
  unfold stepM
  split
  · split
    · rw [setI_len, setI_len]
    · rfl
  · rfl
theorem stepM_up {l : List Ev1} {out : List Bool} {k n : Nat} (h : out.getD n false = true) : (stepM l out k).getD n false = true := by
  unfold stepM
  split
  · split
    · exact setI_up (setI_up h)
    · exact h
  · exact h
theorem runM_len (l : List Ev1) : ∀ k out, (runM l k out).length = out.length
  | 0, _ => rfl
  | k + 1, out => by rw [runM, runM_len l k, stepM_len]
theorem runM_up (l : List Ev1) : ∀ k out n, out.getD n false = true → (runM l k out).getD n false = true
  | 0, _, _, h => h
  | k + 1, out, n, h => runM_up l k _ n (stepM_up h)
/-- A step turns nothing from its own place on. -/
theorem stepM_high {l : List Ev1} {out : List Bool} {k n : Nat} (hn : k ≤ n) : (stepM l out k).getD n false = out.getD n false := by
  unfold stepM
  split
  · rename_i e he
    split
    · have b1 := lastP_lt l (procP e) k
      have b2 := lastP_lt l (sendP e) k
      cases h : out.getD n false with
      | true => exact setI_up (setI_up h)
      | false =>
        cases h2 : (setI (setI out (lastP l (procP e) k)) (lastP l (sendP e) k)).getD n false with
        | false => rfl
        | true =>
          rcases setI_new h2 with h3 | ⟨h3, h4⟩
          · rcases setI_new h3 with h5 | ⟨h5, h6⟩
            · rw [h] at h5; cases h5
            · omega
          · omega
    · rfl
  · rfl
theorem runM_high (l : List Ev1) : ∀ k out n, k ≤ n → (runM l k out).getD n false = out.getD n false
  | 0, _, _, _ => rfl
  | k + 1, out, n, h => by rw [runM, runM_high l k _ n (by omega), stepM_high (by omega)]
theorem runM_closed (l : List Ev1) : ∀ k out, k ≤ out.length → ∀ n e, n < k → l[n]? = some e → (runM l k out).getD n false = true → ∀ c : Int, (c = lastP l (procP e) n ∨ c = lastP l (sendP e) n) → c ≥ 0 → (runM l k out).getD c.toNat false = true
  | 0, _, _ => by intro n e h; omega
  | k + 1, out, hk => by
    intro n e hn he h c hc h0
    by_cases hnk : n = k
    · subst hnk
      rw [runM] at h ⊢
      rw [runM_high l n _ n (Nat.le_refl _), stepM_high (Nat.le_refl _)] at h
      apply runM_up
      unfold stepM
      rw [he]
      simp only [h, if_true]
      have b1 := lastP_lt l (procP e) n
      have b2 := lastP_lt l (sendP e) n
      rcases hc with rfl | rfl
      · exact setI_up (setI_at h0 (by omega))
      · exact setI_at h0 (by rw [setI_len]; omega)
    · rw [runM] at h ⊢
      exact runM_closed l k _ (by rw [stepM_len]; omega) n e (by omega) he h c hc h0
theorem runM_least (l : List Ev1) (Q : Nat → Prop) (hQ : ∀ n e, l[n]? = some e → Q n → ∀ c : Int, (c = lastP l (procP e) n ∨ c = lastP l (sendP e) n) → c ≥ 0 → Q c.toNat) : ∀ k out, (∀ n, out.getD n false = true → Q n) → ∀ n, (runM l k out).getD n false = true → Q n
  | 0, _, h => h
  | k + 1, out, h => by
    refine runM_least l Q hQ k _ (fun n hn => ?_)
    unfold stepM at hn
    split at hn
    · rename_i e he
      split at hn
      · rename_i ht
        rcases setI_new hn with h1 | ⟨h1, h2⟩
        · rcases setI_new h1 with h3 | ⟨h3, h4⟩
          · exact h n h3
          · rw [h4]; exact hQ k e he (h k ht) _ (.inl rfl) h3
        · rw [h2]; exact hQ k e he (h k ht) _ (.inr rfl) h1
      · exact h n hn
    · exact h n hn
def marksOf (l : List Ev1) (j : Nat) : List Bool := runM l (j + 1) ((List.replicate l.length false).set j true)
theorem start_at (L j n : Nat) (hj : j < L) : (((List.replicate L false).set j true).getD n false = true) ↔ n = j := by
  rw [List.getD_eq_getElem?_getD]
  constructor
  · intro h
    by_cases hn : n = j
    · exact hn
    · rw [List.getElem?_set_ne (fun e => hn e.symm), List.getElem?_replicate] at h
      split at h <;> cases h
  · rintro rfl
    rw [List.getElem?_set_self (by simpa using hj)]; rfl
theorem marks_iff {l : List Ev1} (hg : events l = true) (h60 : l.length ≤ 60) {i j : Nat} {e : Ev1} (he : l[i]? = some e) (hj : j < l.length) : (marksOf l j).getD i false = true ↔ W l j e.f1.toNat ≥ W l i e.f1.toNat := by
  have hi : i < l.length := (List.getElem?_eq_some_iff.1 he).1
  have hpr := proc_in hg he
  have hp6 : e.f1.toNat < 6 := by omega
  have hjm : (marksOf l j).getD j false = true := runM_up l _ _ _ ((start_at _ _ _ hj).2 rfl)
  constructor
  · intro h
    exact runM_least l (fun n => W l n e.f1.toNat ≤ W l j e.f1.toNat) (fun n o ho hn c hc h0 => by
      have hnl : n < l.length := (List.getElem?_eq_some_iff.1 ho).1
      have hr := W_rec hg ho _ hp6 (W_small hg h60 hp6 hnl)
      have hM : M l c e.f1.toNat = W l c.toNat e.f1.toNat := by unfold M; rw [if_pos h0]
      have hle : M l c e.f1.toNat ≤ mx (mx 0 (M l (lastP l (procP o) n) e.f1.toNat)) (M l (lastP l (sendP o) n) e.f1.toNat) := by
        rcases hc with rfl | rfl
        · exact Int.le_trans (mx_right 0 _) (mx_left _ _)
        · exact mx_right _ _
      have : (0 : Int) ≤ (if e.f1.toNat = o.f1.toNat then 1 else 0) := by split <;> omega
      omega) (j + 1) _ (fun n hn => by rw [(start_at _ _ _ hj).1 hn]; exact Int.le_refl _) i h
  · intro h
    have hWi := W_own hg h60 i e he
    have low : ∀ k, (marksOf l j).getD k false = true → k < j + 1 := by
      intro k hk
      by_cases hkj : k < j + 1
      · exact hkj
      · have : (marksOf l j).getD k false = ((List.replicate l.length false).set j true).getD k false := runM_high l _ _ _ (by omega)
        rw [this] at hk
        have := (start_at _ _ _ hj).1 hk
        omega
    have find : ∀ k, (marksOf l j).getD k false = true → W l i e.f1.toNat ≤ W l k e.f1.toNat → ∃ q o, (marksOf l j).getD q false = true ∧ l[q]? = some o ∧ o.f1 = e.f1 ∧ W l q o.f1.toNat = W l i e.f1.toNat := by
      intro k
      induction k using Nat.strongRecOn with
      | ind k ih =>
        intro hk hle
        have hkj := low k hk
        have ho : l[k]? = some l[k] := List.getElem?_eq_getElem (by omega)
        generalize l[k] = o at ho
        have hr := W_rec hg ho _ hp6 (W_small hg h60 hp6 (show k < l.length by omega))
        have hop := proc_in hg ho
        have b1 := lastP_lt l (procP o) k
        have b2 := lastP_lt l (sendP o) k
        have hlen : j + 1 ≤ ((List.replicate l.length false).set j true).length := by simp; omega
        by_cases hsame : e.f1.toNat = o.f1.toNat ∧ W l i e.f1.toNat = W l k e.f1.toNat
        · exact ⟨k, o, hk, ho, by omega, by rw [← hsame.1]; exact hsame.2.symm⟩
        · have hm : W l i e.f1.toNat ≤ mx (mx 0 (M l (lastP l (procP o) k) e.f1.toNat)) (M l (lastP l (sendP o) k) e.f1.toNat) := by
            by_cases hs : e.f1.toNat = o.f1.toNat
            · rw [if_pos hs] at hr
              have : W l i e.f1.toNat ≠ W l k e.f1.toNat := fun h => hsame ⟨hs, h⟩
              omega
            · rw [if_neg hs] at hr
              omega
          have next : ∀ c : Int, (c = lastP l (procP o) k ∨ c = lastP l (sendP o) k) → c < k → W l i e.f1.toNat ≤ M l c e.f1.toNat → ∃ q o, (marksOf l j).getD q false = true ∧ l[q]? = some o ∧ o.f1 = e.f1 ∧ W l q o.f1.toNat = W l i e.f1.toNat := by
            intro c hc hck hcm
            have h0 : c ≥ 0 := by
              by_cases h : c ≥ 0
              · exact h
              · unfold M at hcm
                rw [if_neg h] at hcm
                omega
            have hM : M l c e.f1.toNat = W l c.toNat e.f1.toNat := by unfold M; rw [if_pos h0]
            rw [hM] at hcm
            exact ih c.toNat (by omega) (runM_closed l (j + 1) _ hlen k o hkj ho hk c hc h0) hcm
          rcases mx_or hm with h1 | h1
          · rcases mx_or h1 with h2 | h2
            · omega
            · exact next _ (.inl rfl) b1.2 h2
          · exact next _ (.inr rfl) b2.2 h1
    obtain ⟨q, o, hq, ho, hoe, hW⟩ := find j hjm h
    have hWq := W_own hg h60 q o ho
    have hpe : ((e.f1.toNat : Nat) : Int) = e.f1 := Int.toNat_of_nonneg hpr.1
    rw [hWq, hWi, hoe] at hW
    have strict : ∀ a b x, a < b → l[a]? = some x → x.f1 = e.f1 → cntP l e.f1.toNat a < cntP l e.f1.toNat b := by
      intro a b x hab hx hxe
      have h1 : cntP l e.f1.toNat (a + 1) = cntP l e.f1.toNat a + 1 := by simp [cntP, hx, hxe, hpe]
      have h2 := cntP_mono l e.f1.toNat (show a + 1 ≤ b by omega)
      omega
    have : q = i := by
      rcases Nat.lt_trichotomy q i with h | h | h
      · have := strict q i o h ho hoe; omega
      · exact h
      · have := strict i q e h he rfl; omega
    rw [← this]
    exact hq
theorem before_ev (l : List Ev1) (j : Nat) (hj : j < l.length) (hl : l.length ≤ 1048576) : Ev (fun k => spec_l2Before.f k l (j : Int)) ((marksOf l j).set j false) := by
  have key : ∀ n, n ≤ j + 1 → ∀ out : List Bool, out.length = l.length → Ev (fun k => spec_l2Before.l0 k l (j : Int) out ((n : Int) - 1)) ((runM l n out).set j false) := by
    intro n
    induction n with
    | zero =>
      intro _ out ho
      refine ev_last (fun k => ?_)
      simp only [spec_l2Before.l0]
      rw [if_neg (by omega), if_pos (by omega), if_pos (by omega)]
      simp [runM]
    | succ n ih =>
      intro hn out ho
      have he : l[n]? = some l[n] := List.getElem?_eq_getElem (by omega)
      generalize l[n] = e at he
      have b1 := lastP_lt l (procP e) n
      have b2 := lastP_lt l (sendP e) n
      have e1 : ((n + 1 : Nat) : Int) - 1 = (n : Int) := by omega
      have w : wrap64 ((n : Int) - 1) = (n : Int) - 1 := wrap_of (by omega) (by omega)
      have hrd : rdOf false out (n : Int) = out.getD n false := by simp [rdOf]
      have go := ih (by omega) (stepM l out n) (by rw [stepM_len]; exact ho)
      rw [runM]
      refine ev_shift ?_
      simp only [spec_l2Before.l0, e1, w, hrd]
      refine ev_if_pos (by omega) (ev_if_pos (by omega) (ev_if_pos (by omega) ?_))
      unfold stepM at go ⊢
      simp only [he] at go ⊢
      by_cases hm : out.getD n false = true
      · simp only [hm, if_true] at go ⊢
        refine ev_bind (l2Causes_ev l n e he hl) ?_
        unfold setI at go ⊢
        by_cases c1 : lastP l (procP e) n ≥ 0
        · simp only [if_pos c1] at go
          refine ev_if_pos c1 (ev_if_pos c1 (ev_if_pos (by omega) ?_))
          simp only [Option.bind_some]
          by_cases c2 : lastP l (sendP e) n ≥ 0
          · simp only [if_pos c2] at go
            simp only [if_pos c1]
            refine ev_if_pos c2 (ev_if_pos c2 (ev_if_pos (by omega) ?_))
            simp only [if_pos c2]
            exact go
          · simp only [if_neg c2] at go
            simp only [if_pos c1]
            refine ev_if_neg c2 ?_
            simp only [if_neg c2]
            exact go
        · simp only [if_neg c1] at go
          refine ev_if_neg c1 ?_
          by_cases c2 : lastP l (sendP e) n ≥ 0
          · simp only [if_pos c2] at go
            simp only [if_neg c1]
            refine ev_if_pos c2 (ev_if_pos c2 (ev_if_pos (by omega) ?_))
            simp only [if_pos c2]
            exact go
          · simp only [if_neg c2] at go
            simp only [if_neg c1]
            refine ev_if_neg c2 ?_
            simp only [if_neg c2]
            exact go
      · simp only [hm] at go ⊢
        exact go
  have := key (j + 1) (Nat.le_refl _) ((List.replicate l.length false).set j true) (by simp)
  refine Ev.congr (fun k => ?_) this
  have e1 : ((j + 1 : Nat) : Int) - 1 = (j : Int) := by omega
  simp only [spec_l2Before.f, e1]
  rw [if_pos (by omega), if_pos (by omega)]
  simp only [Option.bind_some, Int.toNat_natCast, List.length_replicate]
  rw [if_pos (by omega), if_pos (by omega)]
def aheadB (l : List Ev1) (i j : Int) : Bool × Bool := if events l = true ∧ (0 ≤ i ∧ i ≤ (l.length : Int) - 1) ∧ (0 ≤ j ∧ j ≤ (l.length : Int) - 1) then (((marksOf l j.toNat).set j.toNat false).getD i.toNat false, true) else (false, false)
theorem specAhead_ev (l : List Ev1) (i j : Int) (hl : l.length ≤ 1048576) : Ev (fun k => spec_AheadOf.f k l i j) (aheadB l i j) := by
  have w : wrap64 ((l.length : Int) - 1) = (l.length : Int) - 1 := wrap_of (by omega) (by omega)
  unfold spec_AheadOf.f aheadB
  simp only [w, l1In_f, Option.bind_some]
  refine ev_bind (spec_events_ev l hl) ?_
  by_cases h : events l = true
  · refine ev_if_pos h ?_
    by_cases hi : 0 ≤ i ∧ i ≤ (l.length : Int) - 1
    · refine ev_if_pos (decide_eq_true hi) ?_
      by_cases hj : 0 ≤ j ∧ j ≤ (l.length : Int) - 1
      · refine ev_if_pos (decide_eq_true hj) ?_
        rw [if_pos ⟨h, hi, hj⟩]
        obtain ⟨n, rfl⟩ : ∃ n : Nat, j = n := ⟨j.toNat, by omega⟩
        refine ev_bind (before_ev l n (by omega) hl) (ev_if_pos hi.1 (ev_if_pos ?_ ?_))
        · rw [List.length_set]
          unfold marksOf
          rw [runM_len, List.length_set, List.length_replicate]
          omega
        · simpa [rdOf] using ev_some _
      · rw [if_neg (fun x => hj x.2.2)]
        exact ev_if_neg (by simp [hj]) (ev_some _)
    · rw [if_neg (fun x => hi x.2.1)]
      exact ev_if_neg (by simp [hi]) (ev_some _)
  · rw [if_neg (fun x => h x.1)]
    exact ev_if_neg h (ev_some _)
theorem implAhead_ev (l : List Ev1) (i j : Int) (hl : l.length ≤ 1048576) : Ev (fun k => impl_AheadOf.f k l i j) (aheadB l i j) := by
  have w : wrap64 ((l.length : Int) - 1) = (l.length : Int) - 1 := wrap_of (by omega) (by omega)
  unfold impl_AheadOf.f aheadB
  simp only [w, in_f, Option.bind_some]
  refine ev_bind (impl_events_ev l hl) ?_
  by_cases h : events l = true
  · refine ev_if_pos h ?_
    by_cases hi : 0 ≤ i ∧ i ≤ (l.length : Int) - 1
    · refine ev_if_pos (decide_eq_true hi) ?_
      by_cases hj : 0 ≤ j ∧ j ≤ (l.length : Int) - 1
      · refine ev_if_pos (decide_eq_true hj) ?_
        rw [if_pos ⟨h, hi, hj⟩]
        obtain ⟨n, rfl⟩ : ∃ n : Nat, j = n := ⟨j.toNat, by omega⟩
        obtain ⟨m, rfl⟩ : ∃ m : Nat, i = m := ⟨i.toNat, by omega⟩
        have h60 : l.length ≤ 60 := by
          have := h
          simp only [events, Bool.and_eq_true, decide_eq_true_eq] at this
          exact this.2
        refine ev_bind (vectors_ev l h hl) (ev_if_pos hi.1 (ev_if_pos (by omega) ?_))
        have he : l[m]? = some l[m] := List.getElem?_eq_getElem (by omega)
        generalize l[m] = e at he
        have hpr := proc_in h he
        have hlen := vecsTo_len l l.length (Nat.le_refl _)
        have six := vecsTo_six h l.length (Nat.le_refl _)
        have at_ : ∀ q : Nat, q < l.length → ∃ v, (vecsTo l l.length)[q]? = some v ∧ v.length = 6 ∧ v.getD e.f1.toNat 0 = W l q e.f1.toNat := by
          intro q hq
          refine ⟨(vecsTo l l.length)[q]'(by omega), List.getElem?_eq_getElem (by omega), six _ (List.getElem_mem _), ?_⟩
          unfold W
          rw [List.getD_eq_getElem?_getD (l := vecsTo l l.length), List.getElem?_eq_getElem (show q < (vecsTo l l.length).length by omega)]
          rfl
        obtain ⟨vn, n1, n2, n3⟩ := at_ n (by omega)
        obtain ⟨vm, m1, m2, m3⟩ := at_ m (by omega)
        have rn : rd_T55 ((vecsTo l l.length).map mkC) (n : Int) = mkC vn := rdV (by rw [List.getElem?_map, n1]; rfl)
        have rm : rd_T55 ((vecsTo l l.length).map mkC) (m : Int) = mkC vm := rdV (by rw [List.getElem?_map, m1]; rfl)
        have q1 : ∀ v : List Int, rd v e.f1 = v.getD e.f1.toNat 0 := fun v => by simp [rd]
        simp only [rdE he, rn, rm, mkC, q1, n3, m3, List.length_map, hlen, n2, m2, Int.toNat_natCast]
        by_cases hmn : (m : Int) = (n : Int)
        · have : m = n := by omega
          subst this
          refine ev_if_pos rfl ?_
          have : ((marksOf l m).set m false).getD m false = false := by
            rw [List.getD_eq_getElem?_getD]
            by_cases hlt : m < (marksOf l m).length
            · rw [List.getElem?_set_self hlt]; rfl
            · rw [List.getElem?_eq_none (by rw [List.length_set]; omega)]; rfl
          rw [this]
          exact ev_some _
        · refine ev_if_neg hmn (ev_if_pos (by omega) (ev_if_pos (by omega) (ev_if_pos hpr.1 (ev_if_pos (by omega) (ev_if_pos (by omega) (ev_if_pos (by omega) ?_))))))
          have e1 : ((marksOf l n).set n false).getD m false = (marksOf l n).getD m false := by
            rw [List.getD_eq_getElem?_getD, List.getElem?_set_ne (by omega), ← List.getD_eq_getElem?_getD]
          have e2 : (marksOf l n).getD m false = decide (W l n e.f1.toNat ≥ W l m e.f1.toNat) := by
            rw [Bool.eq_iff_iff, marks_iff h h60 he (by omega), decide_eq_true_iff]
          rw [e1, e2]
          exact ev_some _
      · rw [if_neg (fun x => hj x.2.2)]
        exact ev_if_neg (by simp [hj]) (ev_some _)
    · rw [if_neg (fun x => hi x.2.1)]
      exact ev_if_neg (by simp [hi]) (ev_some _)
  · rw [if_neg (fun x => h x.1)]
    exact ev_if_neg h (ev_some _)

theorem FnExactAheadOf : laws_FnExactAheadOf.Pure := by
  intro l a b hb _ _ _
  apply Ev.rounds
  unfold laws_FnExactAheadOf.f
  have hl : l.length ≤ 140737488355328 := by omega
  simp only [szEventS_f l 1048576 hl (by omega) (by omega), Option.bind_some]
  by_cases hs : (1048576 : Int) < (l.length : Int)
  · simp only [if_pos hs]
    exact ev_some _
  · simp only [if_neg hs]
    have h2 : ¬ (1048576 - (l.length : Int) < 0) := by omega
    simp only [if_neg h2]
    have hto := toEventS_ev l (by omega)
    have hle : (l.map cvE).length ≤ 1048576 := by simp; omega
    generalize l.map cvE = m at hto hle
    refine Ev.bind hto (Ev.bind (specAhead_ev m a b hle) (Ev.bind hto (Ev.bind (implAhead_ev m a b hle) ?_)))
    simp only [bne_self_eq_false, Bool.false_eq_true, if_false]
    refine ev_shift ?_
    simp only [laws_FnExactAheadOf.j0, Bool.false_eq_true, if_false]
    refine Ev.bind hto (Ev.bind (eqEventS_ev m (by omega)) ?_)
    simpa using ev_some true

end Go.Proofs.Ytmfcblbpicbhoaa.Pure
