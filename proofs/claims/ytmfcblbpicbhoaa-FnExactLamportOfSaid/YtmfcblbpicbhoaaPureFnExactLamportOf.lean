/- The pure statement of the law FnExactLamportOf: at every list of events the printed law answers true. -/
import Derived.Test.YtmfcblbpicbhoaaSayFnExactLamportOf
import Derived.Test.YtmfcblbpicbhoaaAid
namespace Go.Proofs.Ytmfcblbpicbhoaa.Pure
open Go.RowKit Go.Proofs.Ytmfcblbpicbhoaa.PFnExactLamportOf Go.Proofs.YtmfcblbpicbhoaaW.PrintWords Go.Proofs.YtmfcblbpicbhoaaW.PrintLast Go.Proofs.Ytmfcblbpicbhoaa.Aid Go.Proofs.Ytmfcblbpicbhoaa.MapW
set_option linter.unusedVariables false
set_option linter.unusedSimpArgs false

theorem in_f (a b c : Int) : impl_in.f a b c = some (decide (b ≤ a ∧ a ≤ c)) := by
  unfold impl_in.f
  by_cases h : a ≥ b
  · rw [if_pos h]; simp [h]
  · rw [if_neg h]; simp [h]
theorem l1In_f (a b c : Int) : spec_l1In.f a b c = some (decide (b ≤ a ∧ a ≤ c)) := by
  unfold spec_l1In.f
  by_cases h : a ≥ b
  · rw [if_pos h]; simp [h]
  · rw [if_neg h]; simp [h]

abbrev Ev1 := S50
theorem rdE {xs : List Ev1} {n : Nat} {x : Ev1} (h : xs[n]? = some x) : rd_T50 xs (n : Int) = x := by simp [rd_T50, h]
def sentB (p : List Ev1) (x : Int) : Bool := p.any fun o => decide (o.f0 = 2) && decide (o.f2 = x)
def takenB (p : List Ev1) (x : Int) : Bool := p.any fun o => decide (o.f0 = 3) && decide (o.f2 = x)
def sameB (p : List Ev1) (k x : Int) : Bool := p.any fun o => decide (o.f0 = k) && decide (o.f2 = x)
def inI (x a b : Int) : Bool := decide (a ≤ x ∧ x ≤ b)
/-- Is an event good behind these? -/
def evOk (p : List Ev1) (e : Ev1) : Bool := inI e.f0 1 3 && inI e.f1 0 5 && (if e.f0 = 1 then decide (e.f2 = 0) else !sameB p e.f0 e.f2 && inI e.f2 1 1000 && (!decide (e.f0 = 3) || sentB p e.f2))
def goodFrom (p : List Ev1) : List Ev1 → Bool
  | [] => true
  | e :: r => evOk p e && goodFrom (p ++ [e]) r
def events (l : List Ev1) : Bool := goodFrom [] l && decide (l.length ≤ 60)
theorem take_snoc {α : Type} {l : List α} {n : Nat} {x : α} (h : l[n]? = some x) : l.take (n + 1) = l.take n ++ [x] := by
  obtain ⟨hn, rfl⟩ := List.getElem?_eq_some_iff.1 h
  exact List.take_succ_eq_append_getElem hn
theorem dec_len (n : Nat) : decide ((n : Int) ≤ 60) = decide (n ≤ 60) := by by_cases h : n ≤ 60 <;> simp [h] <;> omega

/-! ### the impl's look -/
theorem impl_events_ev (l : List Ev1) (hl : l.length ≤ 1048576) : Ev (fun k => impl_areEvents.f k l) (events l) := by
  have key := drop_ind0 l (fun n rest => (∀ o ∈ l.take n, o.f0 = 2 → 1 ≤ o.f2 ∧ o.f2 ≤ 1000) → ∀ s t : List (Int × Bool), (∀ x, mgetD s x false = sentB (l.take n) x) → (∀ x, mgetD t x false = takenB (l.take n) x) →
      Ev (fun k => impl_areEvents.l0 k l l (l.length : Int) (n : Int) s t) (goodFrom (l.take n) rest && decide (l.length ≤ 60))) ?_ ?_
  · have := key (by simp) [] [] (by intro x; simp [mgetD, mget, sentB]) (by intro x; simp [mgetD, mget, takenB])
    simpa [impl_areEvents.f, events] using this
  · intro _ s t _ _
    refine ev_last (fun k => ?_)
    simp only [impl_areEvents.l0]
    rw [if_neg (by omega)]
    simp [goodFrom, dec_len]
  · intro n e rest hn he _ ih hp s t hs ht
    have hts := take_snoc he
    refine ev_shift ?_
    simp only [impl_areEvents.l0, rdE he, in_f, Option.bind_some, hs, ht, wrap_nat (show n < 9223372036854775807 by omega)]
    refine ev_if_pos (by omega) (ev_if_pos (by omega) (ev_if_pos (by omega) ?_))
    have hno : goodFrom (l.take n) (e :: rest) = (evOk (l.take n) e && goodFrom (l.take n ++ [e]) rest) := rfl
    rw [hts] at ih
    by_cases h1 : e.f0 = 1
    · simp only [if_pos h1]
      have hi := ih (fun o ho h2 => by
        rcases List.mem_append.1 ho with h | h
        · exact hp o h h2
        · simp at h; subst h; omega) s t (fun x => by rw [hs x]; simp [sentB, h1]) (fun x => by rw [ht x]; simp [takenB, h1])
      by_cases hpr : 0 ≤ e.f1 ∧ e.f1 ≤ 5
      · simp only [decide_eq_true hpr, if_true]
        by_cases hm : e.f2 = 0
        · have : evOk (l.take n) e = true := by simp [evOk, inI, h1, hpr, hm]
          rw [hno, this, Bool.true_and]
          exact ev_if_pos hm hi
        · have : evOk (l.take n) e = false := by simp [evOk, h1, hm]
          rw [hno, this, Bool.false_and, Bool.false_and]
          exact ev_if_neg hm (ev_some _)
      · have : evOk (l.take n) e = false := by simp [evOk, inI, hpr]
        rw [hno, this, Bool.false_and, Bool.false_and]
        simp only [decide_eq_false hpr, Bool.false_eq_true, if_false]
        exact ev_some _
    · simp only [if_neg h1]
      by_cases h2 : e.f0 = 2
      · simp only [if_pos h2]
        by_cases hpr : 0 ≤ e.f1 ∧ e.f1 ≤ 5
        · simp only [decide_eq_true hpr, if_true]
          by_cases hr : 1 ≤ e.f2 ∧ e.f2 ≤ 1000
          · simp only [decide_eq_true hr, if_true]
            cases hsb : sentB (l.take n) e.f2 with
            | true =>
              have : evOk (l.take n) e = false := by
                have : sameB (l.take n) 2 e.f2 = true := hsb
                simp [evOk, h2, this]
              rw [hno, this, Bool.false_and, Bool.false_and]
              simpa using ev_some false
            | false =>
              have : evOk (l.take n) e = true := by
                have : sameB (l.take n) 2 e.f2 = false := hsb
                simp [evOk, inI, h2, this, hpr, hr]
              rw [hno, this, Bool.true_and]
              simp only [Bool.false_eq_true, if_false]
              refine ih (fun o ho h3 => ?_) _ t (fun x => ?_) (fun x => ?_)
              · rcases List.mem_append.1 ho with h | h
                · exact hp o h h3
                · simp at h; subst h; exact hr
              · rw [mgetD_mput, hs x]
                by_cases hx : x = e.f2
                · subst hx; simp [sentB, h2]
                · have hx' : ¬ e.f2 = x := fun h => hx h.symm
                  simp [sentB, h2, hx, hx']
              · rw [ht x]; simp [takenB, h2]
          · have : evOk (l.take n) e = false := by simp [evOk, inI, h2, hr]
            rw [hno, this, Bool.false_and, Bool.false_and]
            simp only [decide_eq_false hr, Bool.false_eq_true, if_false]
            exact ev_some _
        · have : evOk (l.take n) e = false := by simp [evOk, inI, hpr]
          rw [hno, this, Bool.false_and, Bool.false_and]
          simp only [decide_eq_false hpr, Bool.false_eq_true, if_false]
          exact ev_some _
      · simp only [if_neg h2]
        by_cases h3 : e.f0 = 3
        · simp only [if_pos h3]
          by_cases hpr : 0 ≤ e.f1 ∧ e.f1 ≤ 5
          · simp only [decide_eq_true hpr, if_true]
            cases hsb : sentB (l.take n) e.f2 with
            | false =>
              have : evOk (l.take n) e = false := by simp [evOk, h3, hsb]
              rw [hno, this, Bool.false_and, Bool.false_and]
              simpa using ev_some false
            | true =>
              have hr : 1 ≤ e.f2 ∧ e.f2 ≤ 1000 := by
                unfold sentB at hsb
                simp only [List.any_eq_true, Bool.and_eq_true, decide_eq_true_eq] at hsb
                obtain ⟨o, ho, q1, q2⟩ := hsb
                rw [← q2]; exact hp o ho q1
              simp only [if_true]
              cases htb : takenB (l.take n) e.f2 with
              | true =>
                have : evOk (l.take n) e = false := by
                  have : sameB (l.take n) 3 e.f2 = true := htb
                  simp [evOk, h3, this]
                rw [hno, this, Bool.false_and, Bool.false_and]
                simpa using ev_some false
              | false =>
                have : evOk (l.take n) e = true := by
                  have : sameB (l.take n) 3 e.f2 = false := htb
                  simp [evOk, inI, h3, this, hpr, hr, hsb]
                rw [hno, this, Bool.true_and]
                simp only [Bool.false_eq_true, if_false]
                refine ih (fun o ho h4 => ?_) s _ (fun x => ?_) (fun x => ?_)
                · rcases List.mem_append.1 ho with h | h
                  · exact hp o h h4
                  · simp at h; subst h; omega
                · rw [hs x]; simp [sentB, h3]
                · rw [mgetD_mput, ht x]
                  by_cases hx : x = e.f2
                  · subst hx; simp [takenB, h3]
                  · have hx' : ¬ e.f2 = x := fun h => hx h.symm
                    simp [takenB, h3, hx, hx']
          · have : evOk (l.take n) e = false := by simp [evOk, inI, hpr]
            rw [hno, this, Bool.false_and, Bool.false_and]
            simp only [decide_eq_false hpr, Bool.false_eq_true, if_false]
            exact ev_some _
        · have : evOk (l.take n) e = false := by
            have : ¬ (1 ≤ e.f0 ∧ e.f0 ≤ 3) := by omega
            simp [evOk, inI, this]
          rw [hno, this, Bool.false_and, Bool.false_and]
          simp only [if_neg h3]
          exact ev_some _
/-! ### the spec's look -/
theorem spec_inner (l : List Ev1) (n : Nat) (hn : n < l.length) (hl : l.length ≤ 1048576) (e : Ev1) (r : Bool) (H : Ev (fun k => spec_GoodEvents.l0 k l l (l.length : Int) ((n + 1 : Nat) : Int)) r) :
    Ev (fun k => spec_GoodEvents.l1 k l false l (l.length : Int) (n : Int) (l.take n) ((l.take n).length : Int) 0 e.f0 e.f1 e.f2) (!sameB (l.take n) e.f0 e.f2 && inI e.f2 1 1000 && (!decide (e.f0 = 3) || sentB (l.take n) e.f2) && r) := by
  have hlen : (l.take n).length = n := by simp; omega
  generalize hp : l.take n = p at hlen ⊢
  have key := drop_ind0 p (fun j rest => ∀ s, Ev (fun k => spec_GoodEvents.l1 k l s l (l.length : Int) (n : Int) p (p.length : Int) (j : Int) e.f0 e.f1 e.f2) (!sameB rest e.f0 e.f2 && inI e.f2 1 1000 && (!decide (e.f0 = 3) || (s || sentB rest e.f2)) && r)) ?_ ?_
  · simpa using key false
  · intro s
    refine ev_shift ?_
    simp only [spec_GoodEvents.l1, l1In_f, Option.bind_some, wrap_nat (show n < 9223372036854775807 by omega)]
    refine ev_if_neg (by omega) ?_
    have h0 : sameB [] e.f0 e.f2 = false := rfl
    have h1 : sentB [] e.f2 = false := rfl
    rw [h0, h1, Bool.not_false, Bool.true_and, Bool.or_false]
    cases hi : inI e.f2 1 1000 with
    | false =>
      unfold inI at hi
      simp only [hi, Bool.false_eq_true, if_false, Bool.false_and]
      exact ev_some _
    | true =>
      unfold inI at hi
      simp only [hi, if_true, Bool.true_and]
      by_cases h3 : e.f0 = 3
      · simp only [if_pos h3, h3, decide_true, Bool.not_true, Bool.false_or]
        cases s with
        | true => simpa using H
        | false => simpa using ev_some false
      · simp only [if_neg h3, h3, decide_false, Bool.not_false, Bool.true_or, Bool.true_and]
        exact H
  · intro j o rest hj ho _ ih s
    refine ev_shift ?_
    simp only [spec_GoodEvents.l1, rdE ho, wrap_nat (show j < 9223372036854775807 by omega)]
    refine ev_if_pos (by omega) (ev_if_pos (by omega) (ev_if_pos (by omega) ?_))
    by_cases hm : o.f2 = e.f2
    · by_cases hk : o.f0 = e.f0
      · simp only [if_pos hm, if_pos hk]
        have : sameB (o :: rest) e.f0 e.f2 = true := by simp [sameB, hm, hk]
        rw [this]
        simpa using ev_some false
      · simp only [if_pos hm, if_neg hk]
        have h1 : sameB (o :: rest) e.f0 e.f2 = sameB rest e.f0 e.f2 := by simp [sameB, hk]
        have h2 : sentB (o :: rest) e.f2 = (decide (o.f0 = 2) || sentB rest e.f2) := by simp [sentB, hm]
        rw [h1, h2]
        cases s with
        | true => simpa using ih true
        | false =>
          have := ih (decide (o.f0 = 2))
          simp only [Bool.false_eq_true, if_false, Bool.false_or]
          have hb : (o.f0 == 2) = decide (o.f0 = 2) := by by_cases h : o.f0 = 2 <;> simp [h]
          rw [hb]
          exact this
    · simp only [if_neg hm]
      have h1 : sameB (o :: rest) e.f0 e.f2 = sameB rest e.f0 e.f2 := by simp [sameB, hm]
      have h2 : sentB (o :: rest) e.f2 = sentB rest e.f2 := by simp [sentB, hm]
      rw [h1, h2]
      cases s with
      | true => simpa using ih true
      | false => simpa using ih false
theorem spec_events_ev (l : List Ev1) (hl : l.length ≤ 1048576) : Ev (fun k => spec_GoodEvents.f k l) (events l) := by
  have key := drop_ind0 l (fun n rest => Ev (fun k => spec_GoodEvents.l0 k l l (l.length : Int) (n : Int)) (goodFrom (l.take n) rest && decide (l.length ≤ 60))) ?_ ?_
  · simpa [spec_GoodEvents.f, events] using key
  · refine ev_last (fun k => ?_)
    simp only [spec_GoodEvents.l0]
    rw [if_neg (by omega)]
    simp [goodFrom, dec_len]
  · intro n e rest hn he _ ih
    have hno : goodFrom (l.take n) (e :: rest) = (evOk (l.take n) e && goodFrom (l.take n ++ [e]) rest) := rfl
    rw [take_snoc he] at ih
    refine ev_shift ?_
    simp only [spec_GoodEvents.l0, rdE he, l1In_f, Option.bind_some]
    refine ev_if_pos (by omega) (ev_if_pos (by omega) (ev_if_pos (by omega) ?_))
    by_cases hk : 1 ≤ e.f0 ∧ e.f0 ≤ 3
    · simp only [decide_eq_true hk, if_true]
      by_cases hpr : 0 ≤ e.f1 ∧ e.f1 ≤ 5
      · simp only [decide_eq_true hpr, Bool.not_true]
        refine ev_shift ?_
        simp only [spec_GoodEvents.j1, Bool.false_eq_true, if_false, wrap_nat (show n < 9223372036854775807 by omega)]
        by_cases h1 : e.f0 = 1
        · simp only [if_pos h1]
          by_cases hm : e.f2 = 0
          · have : evOk (l.take n) e = true := by simp [evOk, inI, h1, hpr, hm]
            rw [hno, this, Bool.true_and]
            exact ev_if_pos hm ih
          · have : evOk (l.take n) e = false := by simp [evOk, h1, hm]
            rw [hno, this, Bool.false_and, Bool.false_and]
            exact ev_if_neg hm (ev_some _)
        · simp only [if_neg h1, Option.bind_some]
          refine ev_if_pos (by omega) (ev_if_pos (by omega) ?_)
          have := spec_inner l n hn hl e _ ih
          have e1 : evOk (l.take n) e = (!sameB (l.take n) e.f0 e.f2 && inI e.f2 1 1000 && (!decide (e.f0 = 3) || sentB (l.take n) e.f2)) := by
            have a1 : inI e.f0 1 3 = true := decide_eq_true hk
            have a2 : inI e.f1 0 5 = true := decide_eq_true hpr
            simp only [evOk, a1, a2, if_neg h1, Bool.true_and]
          rw [hno, e1, Bool.and_assoc]
          simpa using this
      · have : evOk (l.take n) e = false := by simp [evOk, inI, hpr]
        rw [hno, this, Bool.false_and, Bool.false_and]
        simp only [decide_eq_false hpr, Bool.not_false]
        refine ev_last (fun k => ?_)
        simp only [spec_GoodEvents.j1, if_true]
    · have : evOk (l.take n) e = false := by simp [evOk, inI, hk]
      rw [hno, this, Bool.false_and, Bool.false_and]
      simp only [decide_eq_false hk, Bool.false_eq_true, if_false]
      refine ev_last (fun k => ?_)
      simp only [spec_GoodEvents.j1, if_true]
/-! ### the law's own functions -/
def cvE (x : S52) : Ev1 := ⟨x.f0, x.f1, x.f2⟩
theorem rdL {xs : List S52} {n : Nat} {x : S52} (h : xs[n]? = some x) : rd_T52 xs (n : Int) = x := by simp [rd_T52, h]
theorem szEventS_f (l : List S52) (a : Int) (hl : l.length ≤ 140737488355328) (h0 : 0 ≤ a) (h1 : a ≤ 1048576) : laws_szEventS.f l a = some (if a < l.length then -1 else a - l.length) := by
  have w : wrap64 (a - (l.length : Int)) = a - l.length := wrap_of (by omega) (by omega)
  unfold laws_szEventS.f
  rw [w]
  by_cases h : a < (l.length : Int)
  · rw [if_pos (by omega), if_pos h]
  · rw [if_neg (by omega), if_neg h]
theorem toEventS_ev (l : List S52) (hl : l.length ≤ 1048576) : Ev (fun k => laws_toEventS.f k l) (l.map cvE) := by
  have key := fill_loop (fun k xs i => laws_toEventS.l0 k l xs i) l cvE (fun k xs => by simp [laws_toEventS.l0]) (fun n x xs hx hn hl' H => ?_) z50
  · refine Ev.congr (fun k => ?_) key
    simp only [laws_toEventS.f]
    rw [if_pos (by omega), if_pos (by omega)]
    simp
  · refine Ev.step (fun k => ?_) H
    simp only [laws_toEventS.l0, laws_toEvent.f, Option.bind_some]
    rw [if_pos (by omega), if_pos (by omega), if_pos (by omega), wrap_nat (by omega), rdL hx]
    simp [cvE]
theorem eqEvent_f (a b c : Int) : laws_eqEvent.f a b c a b c = some true := by simp [laws_eqEvent.f]
theorem eqEventS_ev (l : List Ev1) (hl : l.length ≤ 140737488355328) : Ev (fun k => laws_eqEventS.f k l l) true := by
  have key := eq_loop (fun k i => laws_eqEventS.l0 k l l i) l l (fun _ _ => true) rfl (fun k => by simp [laws_eqEventS.l0]) (fun n x y r hx hy hn _ he H => ?_) (fun n x y hx hy hn _ he => by cases he)
  · rw [zip_self_all (fun _ _ => true) (by simp) l] at key
    refine Ev.congr (fun k => ?_) key
    simp [laws_eqEventS.f]
  · refine Ev.step (fun k => ?_) H
    simp only [laws_eqEventS.l0]
    rw [if_pos (by omega), if_pos (by omega), if_pos (by omega), wrap_nat (by omega), eqEvent_f]
    simp

/-! ### what an event depends on -/
def procP (e o : Ev1) : Bool := decide (o.f1 = e.f1)
def sendP (e o : Ev1) : Bool := decide (e.f0 = 3) && decide (o.f0 = 2) && decide (o.f2 = e.f2)
/-- The last place below n that fits, or -1. -/
def lastP (l : List Ev1) (p : Ev1 → Bool) : Nat → Int
  | 0 => -1
  | n + 1 => if (l[n]?.any p) = true then (n : Int) else lastP l p n
/-- The places below n that fit. -/
def idxP (l : List Ev1) (p : Ev1 → Bool) : Nat → List Int
  | 0 => []
  | n + 1 => if (l[n]?.any p) = true then idxP l p n ++ [(n : Int)] else idxP l p n
theorem lastP_lt (l : List Ev1) (p : Ev1 → Bool) : ∀ n, -1 ≤ lastP l p n ∧ lastP l p n < n
  | 0 => by simp [lastP]
  | n + 1 => by
    have := lastP_lt l p n
    unfold lastP
    split <;> omega
theorem idxP_len (l : List Ev1) (p : Ev1 → Bool) : ∀ n, (idxP l p n).length ≤ n
  | 0 => by simp [idxP]
  | n + 1 => by
    have := idxP_len l p n
    unfold idxP
    split
    · simp; omega
    · omega
theorem lastP_yes {l : List Ev1} {p : Ev1 → Bool} {n : Nat} {o : Ev1} (h : l[n]? = some o) (hp : p o = true) : lastP l p (n + 1) = n := by simp [lastP, h, hp]
theorem lastP_no {l : List Ev1} {p : Ev1 → Bool} {n : Nat} {o : Ev1} (h : l[n]? = some o) (hp : p o = false) : lastP l p (n + 1) = lastP l p n := by simp [lastP, h, hp]
theorem idxP_yes {l : List Ev1} {p : Ev1 → Bool} {n : Nat} {o : Ev1} (h : l[n]? = some o) (hp : p o = true) : idxP l p (n + 1) = idxP l p n ++ [(n : Int)] := by simp [idxP, h, hp]
theorem idxP_no {l : List Ev1} {p : Ev1 → Bool} {n : Nat} {o : Ev1} (h : l[n]? = some o) (hp : p o = false) : idxP l p (n + 1) = idxP l p n := by simp [idxP, h, hp]
/-- Upwards to m. -/
theorem up_ind (m : Nat) (M : Nat → Prop) (hd : M m) (hs : ∀ n, n < m → M (n + 1) → M n) : ∀ n, n ≤ m → M n := by
  intro n hn
  induction hk : m - n generalizing n with
  | zero => have : n = m := by omega
            subst this; exact hd
  | succ d ih => exact hs n (by omega) (ih (n + 1) (by omega) (by omega))
theorem l2Causes_ev (l : List Ev1) (i : Nat) (e : Ev1) (he : l[i]? = some e) (hl : l.length ≤ 1048576) : Ev (fun k => spec_l2Causes.f k l (i : Int)) (lastP l (procP e) i, lastP l (sendP e) i) := by
  have hi : i < l.length := (List.getElem?_eq_some_iff.1 he).1
  have key := up_ind i (fun n => Ev (fun k => spec_l2Causes.l0 k l (i : Int) (lastP l (procP e) n) (lastP l (sendP e) n) (l.take i) (i : Int) (n : Int)) (lastP l (procP e) i, lastP l (sendP e) i)) ?_ ?_ 0 (by omega)
  · refine Ev.congr (fun k => ?_) key
    simp only [spec_l2Causes.f]
    rw [if_pos (by omega), if_pos (by omega)]
    have : (l.take i).length = i := by simp; omega
    simp [this, lastP]
  · refine ev_last (fun k => ?_)
    simp only [spec_l2Causes.l0]
    rw [if_neg (by omega)]
  · intro n hn ih
    have hlen : (l.take i).length = i := by simp; omega
    have hx : l[n]? = some l[n] := List.getElem?_eq_getElem (by omega)
    have hx' : (l.take i)[n]? = some l[n] := by rw [List.getElem?_take_of_lt hn]; exact hx
    generalize l[n] = o at hx hx'
    refine ev_shift ?_
    simp only [spec_l2Causes.l0, rdE he, rdE hx', hlen, wrap_nat (show n < 9223372036854775807 by omega)]
    refine ev_if_pos (by omega) (ev_if_pos (by omega) (ev_if_pos (by omega) (ev_if_pos (by omega) (ev_if_pos (by omega) ?_))))
    by_cases h1 : o.f1 = e.f1
    · have q1 : procP e o = true := by simp [procP, h1]
      by_cases h2 : e.f0 = 3 ∧ o.f0 = 2 ∧ o.f2 = e.f2
      · have q2 : sendP e o = true := by simp [sendP, h2]
        rw [lastP_yes hx q1, lastP_yes hx q2] at ih
        simpa [h1, h2] using ih
      · have q2 : sendP e o = false := by
          simp only [sendP, Bool.and_eq_false_iff, decide_eq_false_iff_not]
          by_cases a : e.f0 = 3 <;> by_cases b : o.f0 = 2 <;> by_cases c : o.f2 = e.f2 <;> simp_all
        rw [lastP_yes hx q1, lastP_no hx q2] at ih
        by_cases a : e.f0 = 3 <;> by_cases b : o.f0 = 2 <;> by_cases c : o.f2 = e.f2 <;> simp_all
    · have q1 : procP e o = false := by simp [procP, h1]
      by_cases h2 : e.f0 = 3 ∧ o.f0 = 2 ∧ o.f2 = e.f2
      · have q2 : sendP e o = true := by simp [sendP, h2]
        rw [lastP_no hx q1, lastP_yes hx q2] at ih
        simpa [h1, h2] using ih
      · have q2 : sendP e o = false := by
          simp only [sendP, Bool.and_eq_false_iff, decide_eq_false_iff_not]
          by_cases a : e.f0 = 3 <;> by_cases b : o.f0 = 2 <;> by_cases c : o.f2 = e.f2 <;> simp_all
        rw [lastP_no hx q1, lastP_no hx q2] at ih
        by_cases a : e.f0 = 3 <;> by_cases b : o.f0 = 2 <;> by_cases c : o.f2 = e.f2 <;> simp_all
def ownP (l : List Ev1) (e : Ev1) (i : Nat) : List Int := if lastP l (procP e) i ≥ 0 then [lastP l (procP e) i] else []
def causesP (l : List Ev1) (e : Ev1) (i : Nat) : List Int := ownP l e i ++ idxP l (sendP e) i
theorem causes_ev (l : List Ev1) (i : Nat) (e : Ev1) (he : l[i]? = some e) (hl : l.length ≤ 1048576) : Ev (fun k => impl_causes.f k l (i : Int)) (causesP l e i) := by
  have hi : i < l.length := (List.getElem?_eq_some_iff.1 he).1
  have low : ∀ st : List Int, st.length ≤ 1 → Ev (fun k => impl_causes.j1 k l (i : Int) st) (st ++ idxP l (sendP e) i) := by
    intro st hst
    have key := up_ind i (fun n => Ev (fun k => impl_causes.l1 k l (i : Int) (st ++ idxP l (sendP e) n) (i : Int) (n : Int)) (st ++ idxP l (sendP e) i)) ?_ ?_ 0 (by omega)
    · refine ev_shift (Ev.congr (fun k => ?_) key)
      simp [impl_causes.j1, idxP]
    · refine ev_last (fun k => ?_)
      simp only [impl_causes.l1]
      rw [if_neg (by omega)]
    · intro n hn ih
      have hx : l[n]? = some l[n] := List.getElem?_eq_getElem (by omega)
      generalize l[n] = o at hx
      have hlen := idxP_len l (sendP e) n
      refine ev_shift ?_
      simp only [impl_causes.l1, rdE he, rdE hx, wrap_nat (show n < 9223372036854775807 by omega)]
      refine ev_if_pos (by omega) (ev_if_pos (by omega) (ev_if_pos (by omega) ?_))
      by_cases h1 : e.f0 = 3
      · refine ev_if_pos h1 (ev_if_pos (by omega) (ev_if_pos (by omega) ?_))
        by_cases h2 : o.f0 = 2
        · refine ev_if_pos h2 ?_
          by_cases h3 : o.f2 = e.f2
          · refine ev_if_pos h3 (ev_if_pos (by simp; omega) ?_)
            rw [idxP_yes hx (by simp [sendP, h1, h2, h3])] at ih
            simpa using ih
          · refine ev_if_neg h3 ?_
            rw [idxP_no hx (by simp [sendP, h3])] at ih
            exact ih
        · refine ev_if_neg h2 ?_
          rw [idxP_no hx (by simp [sendP, h2])] at ih
          exact ih
      · refine ev_if_neg h1 ?_
        rw [idxP_no hx (by simp [sendP, h1])] at ih
        exact ih
  have up : ∀ j, j ≤ i → lastP l (procP e) i = lastP l (procP e) j → Ev (fun k => impl_causes.l0 k l (i : Int) [] ((j : Int) - 1)) (causesP l e i) := by
    intro j
    induction j with
    | zero =>
      intro _ h
      refine ev_shift ?_
      simp only [impl_causes.l0]
      refine ev_if_neg (by omega) ?_
      have : ownP l e i = [] := by simp [ownP, h, lastP]
      unfold causesP
      rw [this]
      exact low [] (by simp)
    | succ j ih =>
      intro hj h
      have hx : l[j]? = some l[j] := List.getElem?_eq_getElem (by omega)
      generalize l[j] = o at hx
      refine ev_shift ?_
      have e1 : ((j + 1 : Nat) : Int) - 1 = (j : Int) := by omega
      simp only [impl_causes.l0, e1, rdE he, rdE hx]
      refine ev_if_pos (by omega) (ev_if_pos (by omega) (ev_if_pos (by omega) (ev_if_pos (by omega) (ev_if_pos (by omega) ?_))))
      by_cases h1 : o.f1 = e.f1
      · refine ev_if_pos h1 (ev_if_pos (by simp) ?_)
        rw [lastP_yes hx (by simp [procP, h1])] at h
        have : ownP l e i = [(j : Int)] := by simp [ownP, h]
        unfold causesP
        rw [this]
        exact low [(j : Int)] (by simp)
      · refine ev_if_neg h1 ?_
        rw [lastP_no hx (by simp [procP, h1])] at h
        have w : wrap64 ((j : Int) - 1) = (j : Int) - 1 := wrap_of (by omega) (by omega)
        rw [w]
        exact ih (by omega) h
  refine Ev.congr (fun k => ?_) (up i (Nat.le_refl _) rfl)
  unfold impl_causes.f
  rw [wrap_of (by omega) (by omega)]
/-- A message is sent once. -/
theorem good_snoc : ∀ (r p : List Ev1), goodFrom p r = true → ∀ (n : Nat) (e : Ev1), r[n]? = some e → evOk (p ++ r.take n) e = true
  | [], _, _, n, e, he => by simp at he
  | x :: r, p, h, n, e, he => by
    simp only [goodFrom, Bool.and_eq_true] at h
    cases n with
    | zero => simp at he; subst he; simpa using h.1
    | succ n =>
      have := good_snoc r (p ++ [x]) h.2 n e (by simpa using he)
      simpa using this
theorem good_at {l : List Ev1} (h : events l = true) {n : Nat} {e : Ev1} (he : l[n]? = some e) : evOk (l.take n) e = true := by
  have h' : goodFrom [] l = true := by
    have := h
    simp only [events, Bool.and_eq_true] at this
    exact this.1
  simpa using good_snoc l [] h' n e he
theorem send_once {l : List Ev1} (h : events l = true) {j n : Nat} {a b : Ev1} (hjn : j < n) (ha : l[j]? = some a) (hb : l[n]? = some b) (h2 : a.f0 = 2) (h3 : b.f0 = 2) : a.f2 ≠ b.f2 := by
  intro heq
  have := good_at h hb
  have ne1 : b.f0 ≠ 1 := by omega
  simp only [evOk, if_neg ne1, Bool.and_eq_true, Bool.not_eq_true'] at this
  have hs := this.2.1.1
  have : sameB (l.take n) b.f0 b.f2 = true := by
    simp only [sameB, List.any_eq_true]
    exact ⟨a, List.mem_of_getElem? (by rw [List.getElem?_take_of_lt hjn]; exact ha), by simp [h2, h3, heq]⟩
  rw [this] at hs
  cases hs
theorem idx_one {l : List Ev1} (h : events l = true) (e : Ev1) : ∀ n, idxP l (sendP e) n = if lastP l (sendP e) n ≥ 0 then [lastP l (sendP e) n] else []
  | 0 => by simp [idxP, lastP]
  | n + 1 => by
    have ih := idx_one h e n
    cases hx : l[n]? with
    | none => simp only [idxP, lastP, hx]; simpa using ih
    | some o =>
      cases hp : sendP e o with
      | false => rw [idxP_no hx hp, lastP_no hx hp]; exact ih
      | true =>
        rw [idxP_yes hx hp, lastP_yes hx hp]
        have : idxP l (sendP e) n = [] := by
          have none : ∀ m, m ≤ n → idxP l (sendP e) m = [] := by
            intro m
            induction m with
            | zero => intro _; rfl
            | succ m ih2 =>
              intro hm
              cases hy : l[m]? with
              | none => simp only [idxP, hy]; simpa using ih2 (by omega)
              | some q =>
                have : sendP e q = false := by
                  cases hq : sendP e q with
                  | false => rfl
                  | true =>
                    simp only [sendP, Bool.and_eq_true, decide_eq_true_eq] at hp hq
                    exact absurd (hq.2.trans hp.2.symm) (send_once h (by omega) hy hx hq.1.2 hp.1.2)
                rw [idxP_no hy this]
                exact ih2 (by omega)
          exact none n (Nat.le_refl _)
        rw [this]
        simp

theorem markEventS_ev (l : List Ev1) (m : Int) (h0 : 0 ≤ m) (hb : m + 3 * l.length ≤ 4611686018427387904) : ∃ l', Ev (fun k => laws_markEventS.f k l m) (m + 3 * l.length, l') := by
  have key : ∀ d n, n + d = l.length → ∀ xs : List Ev1, xs.length = l.length → ∃ l', Ev (fun k => laws_markEventS.l0 k xs (m + 3 * n) (n : Int)) (m + 3 * l.length, l') := by
    intro d
    induction d with
    | zero =>
      intro n hn xs hx
      refine ⟨xs, ev_last (fun k => ?_)⟩
      simp only [laws_markEventS.l0]
      rw [if_neg (by omega)]
      have : n = l.length := by omega
      rw [this]
    | succ d ih =>
      intro n hn xs hx
      have w1 : wrap64 (m + 3 * (n : Int) + 1) = m + 3 * (n : Int) + 1 := wrap_of (by omega) (by omega)
      have w2 : wrap64 (m + 3 * (n : Int) + 1 + 1) = m + 3 * (n : Int) + 2 := by rw [wrap_of (by omega) (by omega)]; omega
      have w3 : wrap64 (m + 3 * (n : Int) + 2 + 1) = m + 3 * ((n + 1 : Nat) : Int) := by rw [wrap_of (by omega) (by omega)]; omega
      have go := fun ys (hy : List.length ys = l.length) => ih (n + 1) (by omega) ys hy
      obtain ⟨l', h⟩ := go _ (show List.length ((((xs.set n _).set n _)).set n _) = l.length by simp only [List.length_set]; exact hx)
      refine ⟨l', ev_shift (Ev.congr (fun k => ?_) h)⟩
      simp only [laws_markEventS.l0]
      rw [if_pos (by omega), if_pos (by omega), w1, w2, w3, wrap_nat (by omega)]
      simp only [Option.bind_some, Int.toNat_natCast]
      rfl
  have := key l.length 0 (by omega) l rfl
  simpa [laws_markEventS.f] using this

theorem eqIntS_ev (l : List Int) (hl : l.length ≤ 140737488355328) : Ev (fun k => laws_eqIntS.f k l l) true := by
  have key := eq_loop (fun k i => laws_eqIntS.l0 k l l i) l l (fun x y => decide (x = y)) rfl (fun k => by simp [laws_eqIntS.l0]) (fun n x y r hx hy hn _ he H => ?_) (fun n x y hx hy hn _ he => ?_)
  · rw [zip_self_all (fun x y : Int => decide (x = y)) (by simp) l] at key
    refine Ev.congr (fun k => ?_) key
    simp [laws_eqIntS.f]
  · refine Ev.step (fun k => ?_) H
    simp only [laws_eqIntS.l0]
    rw [if_pos (by omega), if_pos (by omega), if_pos (by omega), wrap_nat (by omega)]
    simp
  · rw [hx] at hy
    obtain rfl := Option.some.inj hy
    simp at he

theorem markIntS_ev (l : List Int) (m : Int) (h0 : 0 ≤ m) (hb : m + l.length ≤ 4611686018427387904) : Ev (fun k => laws_markIntS.f k l m) (m + l.length, upFrom m l.length) := by
  have key : ∀ n, n ≤ l.length → ∀ xs : List Int, xs.length = l.length → (∀ j, j < n → xs[j]? = (upFrom m l.length)[j]?) → Ev (fun k => laws_markIntS.l0 k xs (m + n) (n : Int)) (m + l.length, upFrom m l.length) := by
    intro n hn
    induction hd : l.length - n generalizing n with
    | zero =>
      intro xs hx hj
      have e : n = l.length := by omega
      subst e
      have : xs = upFrom m l.length := by
        apply List.ext_getElem?
        intro j
        by_cases h : j < l.length
        · exact hj j h
        · rw [List.getElem?_eq_none (by omega), List.getElem?_eq_none (by rw [upFrom_length]; omega)]
      subst this
      refine Ev.step (fun k => ?_) (ev_some _)
      simp only [laws_markIntS.l0]
      rw [if_neg (by omega)]
    | succ d ih =>
      intro xs hx hj
      refine Ev.step (fun k => ?_) (ih (n + 1) (by omega) (by omega) (xs.set n (m + n)) (by simpa using hx) (fun j hjn => ?_))
      · simp only [laws_markIntS.l0]
        rw [if_pos (by omega), if_pos (by omega), wrap_nat (by omega), wrap_of (by omega) (by omega)]
        simp [Int.add_assoc]
      · by_cases h : j = n
        · subst h
          rw [List.getElem?_set_self (by omega), upFrom_get _ _ _ (by omega)]
        · rw [List.getElem?_set_ne (by omega)]
          exact hj j (by omega)
  have := key 0 (by omega) l rfl (fun j hj => by omega)
  simpa [laws_markIntS.f] using this
theorem heldIntS_ev (m : Int) (n : Nat) (h0 : 0 ≤ m) (hb : m + n ≤ 4611686018427387904) : Ev (fun k => laws_heldIntS.f k (upFrom m n) m) (m + n) := by
  have key : ∀ d i, i + d = n → Ev (fun k => laws_heldIntS.l0 k (upFrom m n) (m + i) (i : Int)) (m + n) := by
    intro d
    induction d with
    | zero =>
      intro i hi
      obtain rfl : i = n := by omega
      refine Ev.step (fun k => ?_) (ev_some _)
      simp only [laws_heldIntS.l0]
      rw [upFrom_length, if_neg (by omega)]
    | succ d ih =>
      intro i hi
      refine Ev.step (fun k => ?_) (ih (i + 1) (by omega))
      simp only [laws_heldIntS.l0]
      rw [upFrom_length, if_pos (by omega), if_pos (by omega), rd_nat (upFrom_get n m i (by omega)), if_pos rfl, wrap_nat (by omega), wrap_of (by omega) (by omega)]
      simp [Int.add_assoc]
  have := key n 0 (by omega)
  simpa [laws_heldIntS.f] using this

/-! ### Lamport's clock -/
def stepL (out : List Int) (acc k : Int) : Int := if k ≥ 0 then (if rd out k > acc then rd out k else acc) else acc
def lampAt (l : List Ev1) (out : List Int) (e : Ev1) (i : Nat) : Int := wrap64 (stepL out (stepL out 0 (lastP l (procP e) i)) (lastP l (sendP e) i) + 1)
def lampTo (l : List Ev1) : Nat → List Int
  | 0 => []
  | n + 1 => match l[n]? with
    | some e => lampTo l n ++ [lampAt l (lampTo l n) e n]
    | none => lampTo l n
theorem lampTo_len (l : List Ev1) : ∀ n, n ≤ l.length → (lampTo l n).length = n
  | 0, _ => rfl
  | n + 1, h => by
    have ih := lampTo_len l n (by omega)
    have : l[n]? = some l[n] := List.getElem?_eq_getElem (by omega)
    simp only [lampTo, this]
    simp [ih]
theorem lampTo_next {l : List Ev1} {n : Nat} {e : Ev1} (he : l[n]? = some e) : lampTo l (n + 1) = lampTo l n ++ [lampAt l (lampTo l n) e n] := by simp only [lampTo, he]
theorem specLamp_ev (l : List Ev1) (hl : l.length ≤ 1048576) : Ev (fun k => spec_LamportOf.l0 k l [] (l.length : Int) 0) (lampTo l l.length, true) := by
  have key := up_ind l.length (fun n => Ev (fun k => spec_LamportOf.l0 k l (lampTo l n) (l.length : Int) (n : Int)) (lampTo l l.length, true)) ?_ ?_ 0 (by omega)
  · simpa [lampTo] using key
  · refine ev_last (fun k => ?_)
    simp only [spec_LamportOf.l0]
    rw [if_neg (by omega)]
  · intro n hn ih
    have he : l[n]? = some l[n] := List.getElem?_eq_getElem hn
    generalize l[n] = e at he
    have hlen := lampTo_len l n (by omega)
    rw [lampTo_next he] at ih
    refine ev_shift ?_
    simp only [spec_LamportOf.l0]
    refine ev_if_pos (by omega) (ev_bind (l2Causes_ev l n e he hl) ?_)
    simp only [Option.bind_some]
    generalize ho : lampTo l n = out at ih hlen ⊢
    have b1 := lastP_lt l (procP e) n
    have b2 := lastP_lt l (sendP e) n
    have step2 : ∀ acc : Int, wrap64 (stepL out acc (lastP l (sendP e) n) + 1) = lampAt l out e n → Ev (fun k => spec_LamportOf.l1 k l out acc (l.length : Int) (n : Int) [lastP l (procP e) n, lastP l (sendP e) n] ((2 : Nat) : Int) ((1 : Nat) : Int)) (lampTo l l.length, true) := by
      intro acc hacc
      have step3 : ∀ acc : Int, wrap64 (acc + 1) = lampAt l out e n → Ev (fun k => spec_LamportOf.l1 k l out acc (l.length : Int) (n : Int) [lastP l (procP e) n, lastP l (sendP e) n] ((2 : Nat) : Int) ((2 : Nat) : Int)) (lampTo l l.length, true) := by
        intro acc hacc
        refine ev_shift ?_
        simp only [spec_LamportOf.l1]
        refine ev_if_neg (by omega) (ev_if_pos (by omega) ?_)
        rw [hacc, wrap_nat (by omega)]
        exact ih
      refine ev_shift ?_
      simp only [spec_LamportOf.l1]
      have r1 : rd [lastP l (procP e) n, lastP l (sendP e) n] ((1 : Nat) : Int) = lastP l (sendP e) n := rd_nat rfl
      simp only [r1, wrap_nat (show 1 < 9223372036854775807 by omega)]
      refine ev_if_pos (by omega) (ev_if_pos (by omega) (ev_if_pos (by simp) ?_))
      unfold stepL at hacc
      by_cases c1 : lastP l (sendP e) n ≥ 0
      · rw [if_pos c1] at hacc
        refine ev_if_pos c1 (ev_if_pos (by omega) (ev_if_pos (by omega) ?_))
        by_cases c2 : rd out (lastP l (sendP e) n) > acc
        · rw [if_pos c2] at hacc
          exact ev_if_pos c2 (step3 _ hacc)
        · rw [if_neg c2] at hacc
          exact ev_if_neg c2 (step3 _ hacc)
      · rw [if_neg c1] at hacc
        exact ev_if_neg c1 (step3 _ hacc)
    have goal : Ev (fun k => spec_LamportOf.l1 k l out 0 (l.length : Int) (n : Int) [lastP l (procP e) n, lastP l (sendP e) n] ((2 : Nat) : Int) ((0 : Nat) : Int)) (lampTo l l.length, true) := by
      refine ev_shift ?_
      simp only [spec_LamportOf.l1]
      have r1 : rd [lastP l (procP e) n, lastP l (sendP e) n] ((0 : Nat) : Int) = lastP l (procP e) n := rd_nat rfl
      simp only [r1, wrap_nat (show 0 < 9223372036854775807 by omega)]
      refine ev_if_pos (by omega) (ev_if_pos (by omega) (ev_if_pos (by simp) ?_))
      have q : wrap64 (stepL out (stepL out 0 (lastP l (procP e) n)) (lastP l (sendP e) n) + 1) = lampAt l out e n := rfl
      by_cases c1 : lastP l (procP e) n ≥ 0
      · refine ev_if_pos c1 (ev_if_pos (by omega) (ev_if_pos (by omega) ?_))
        by_cases c2 : rd out (lastP l (procP e) n) > 0
        · refine ev_if_pos c2 (step2 _ ?_)
          rw [← q]; simp [stepL, c1, c2]
        · refine ev_if_neg c2 (step2 _ ?_)
          rw [← q]; simp [stepL, c1, c2]
      · refine ev_if_neg c1 (step2 _ ?_)
        rw [← q]; simp [stepL, c1]
    exact goal
theorem mx_step (out : List Int) (acc k : Int) (hk : k ≥ 0) : mx acc (rd out k) = stepL out acc k := by
  unfold mx stepL
  rw [if_pos hk]
theorem implFold (l : List Ev1) (out : List Int) (n : Nat) (ks : List Int) (v : List Int × Bool) (hn : n < l.length) (hl : l.length ≤ 1048576) (ho : out.length = n) (hk : ∀ k ∈ ks, 0 ≤ k ∧ k < n) (hks : ks.length ≤ 1048577)
    (H : Ev (fun k => impl_LamportOf.l0 k l (out ++ [wrap64 (ks.foldl (fun a k => stepL out a k) 0 + 1)]) (l.length : Int) ((n + 1 : Nat) : Int)) v) :
    Ev (fun k => impl_LamportOf.l1 k l out 0 (l.length : Int) (n : Int) ks (ks.length : Int) 0) v := by
  have key := drop_ind0 ks (fun j rest => ∀ acc : Int, rest.foldl (fun a k => stepL out a k) acc = ks.foldl (fun a k => stepL out a k) 0 → Ev (fun k => impl_LamportOf.l1 k l out acc (l.length : Int) (n : Int) ks (ks.length : Int) (j : Int)) v) ?_ ?_
  · exact key 0 rfl
  · intro acc hacc
    refine ev_shift ?_
    simp only [impl_LamportOf.l1]
    refine ev_if_neg (by omega) (ev_if_pos (by omega) ?_)
    simp only [List.foldl_nil] at hacc
    rw [hacc, wrap_nat (by omega)]
    exact H
  · intro j x rest hj hx _ ih acc hacc
    have hb := hk x (List.mem_of_getElem? hx)
    refine ev_shift ?_
    simp only [impl_LamportOf.l1, rd_nat hx, wrap_nat (show j < 9223372036854775807 by omega)]
    refine ev_if_pos (by omega) (ev_if_pos (by omega) (ev_if_pos (by omega) (ev_if_pos hb.1 (ev_if_pos (by omega) ?_))))
    rw [mx_step out acc x hb.1]
    exact ih _ (by simpa using hacc)
theorem implLamp_ev (l : List Ev1) (hg : events l = true) (hl : l.length ≤ 1048576) : Ev (fun k => impl_LamportOf.l0 k l [] (l.length : Int) 0) (lampTo l l.length, true) := by
  have key := up_ind l.length (fun n => Ev (fun k => impl_LamportOf.l0 k l (lampTo l n) (l.length : Int) (n : Int)) (lampTo l l.length, true)) ?_ ?_ 0 (by omega)
  · simpa [lampTo] using key
  · refine ev_last (fun k => ?_)
    simp only [impl_LamportOf.l0]
    rw [if_neg (by omega)]
  · intro n hn ih
    have he : l[n]? = some l[n] := List.getElem?_eq_getElem hn
    generalize l[n] = e at he
    have hlen := lampTo_len l n (by omega)
    rw [lampTo_next he] at ih
    refine ev_shift ?_
    simp only [impl_LamportOf.l0]
    refine ev_if_pos (by omega) (ev_bind (causes_ev l n e he hl) ?_)
    have b1 := lastP_lt l (procP e) n
    have b2 := lastP_lt l (sendP e) n
    have hc : causesP l e n = (if lastP l (procP e) n ≥ 0 then [lastP l (procP e) n] else []) ++ (if lastP l (sendP e) n ≥ 0 then [lastP l (sendP e) n] else []) := by
      unfold causesP ownP
      rw [idx_one hg e n]
    refine implFold l (lampTo l n) n (causesP l e n) _ hn hl hlen (fun k hk => ?_) ?_ ?_
    · rw [hc] at hk
      rcases List.mem_append.1 hk with h | h
      · split at h
        · simp at h; omega
        · simp at h
      · split at h
        · simp at h; omega
        · simp at h
    · rw [hc]
      split <;> split <;> simp
    · have : (causesP l e n).foldl (fun a k => stepL (lampTo l n) a k) 0 = stepL (lampTo l n) (stepL (lampTo l n) 0 (lastP l (procP e) n)) (lastP l (sendP e) n) := by
        rw [hc]
        by_cases c1 : lastP l (procP e) n ≥ 0 <;> by_cases c2 : lastP l (sendP e) n ≥ 0 <;> simp [c1, c2, stepL]
      rw [this]
      exact ih
def lamport (l : List Ev1) : List Int × Bool := if events l = true then (lampTo l l.length, true) else ([], false)
theorem specLamport_ev (l : List Ev1) (hl : l.length ≤ 1048576) : Ev (fun k => spec_LamportOf.f k l) (lamport l) := by
  unfold spec_LamportOf.f lamport
  refine ev_bind (spec_events_ev l hl) ?_
  by_cases h : events l = true
  · simp only [h, if_true]; exact specLamp_ev l hl
  · simp only [h]; exact ev_some _
theorem implLamport_ev (l : List Ev1) (hl : l.length ≤ 1048576) : Ev (fun k => impl_LamportOf.f k l) (lamport l) := by
  unfold impl_LamportOf.f lamport
  refine ev_bind (impl_events_ev l hl) ?_
  by_cases h : events l = true
  · simp only [h, if_true]; exact implLamp_ev l h hl
  · simp only [h]; exact ev_some _
theorem lamport_len (l : List Ev1) : (lamport l).1.length ≤ l.length := by
  unfold lamport
  split
  · simp only [lampTo_len l l.length (Nat.le_refl _)]; exact Nat.le_refl _
  · simp

theorem FnExactLamportOf : laws_FnExactLamportOf.Pure := by
  intro l hb _
  apply Ev.rounds
  unfold laws_FnExactLamportOf.f
  have hl : l.length ≤ 140737488355328 := by omega
  simp only [szEventS_f l 1048576 hl (by omega) (by omega), Option.bind_some]
  by_cases hs : (1048576 : Int) < (l.length : Int)
  · simp only [if_pos hs]
    exact ev_some _
  · simp only [if_neg hs]
    have h2 : ¬ (1048576 - (l.length : Int) < 0) := by omega
    simp only [if_neg h2]
    have hto := toEventS_ev l (by omega)
    have hle : (l.map cvE).length ≤ 1048576 := by simp; omega
    generalize l.map cvE = m at hto hle
    have len := lamport_len m
    have eq := eqIntS_ev (lamport m).1 (by omega)
    have mk := markIntS_ev (lamport m).1 1 (by omega) (by omega)
    have hd := heldIntS_ev 1 (lamport m).1.length (by omega) (by omega)
    obtain ⟨m', mke⟩ := markEventS_ev m 1 (by omega) (by omega)
    refine Ev.bind hto (Ev.bind (specLamport_ev m hle) (Ev.bind hto (Ev.bind (implLamport_ev m hle) (Ev.bind eq ?_))))
    simp only [if_true, bne_self_eq_false]
    refine ev_shift ?_
    simp only [laws_FnExactLamportOf.j0, Bool.false_eq_true, if_false]
    refine Ev.bind hto (Ev.bind (eqEventS_ev m (by omega)) ?_)
    simp only [if_true]
    refine Ev.bind mke (ev_if_neg (by simp only; omega) (Ev.bind eq ?_))
    simp only [if_true, bne_self_eq_false]
    refine ev_shift ?_
    simp only [laws_FnExactLamportOf.j1, Bool.false_eq_true, if_false]
    refine Ev.bind mk (Ev.bind hd (ev_if_neg (by omega) (ev_if_pos rfl ?_)))
    refine Ev.bind hto (Ev.bind (implLamport_ev m hle) (Ev.bind eq ?_))
    simp only [if_true, bne_self_eq_false]
    refine ev_shift ?_
    simp only [laws_FnExactLamportOf.j2, Bool.false_eq_true, if_false]
    exact Ev.bind hd (ev_if_neg (by omega) (ev_if_pos rfl (ev_some _)))

end Go.Proofs.Ytmfcblbpicbhoaa.Pure
