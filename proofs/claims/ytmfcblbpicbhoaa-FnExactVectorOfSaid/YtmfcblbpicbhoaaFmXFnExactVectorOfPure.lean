/- What the law's functions give: the pure part. -/
import Derived.Test.YtmfcblbpicbhoaaFmAid
import Derived.Test.YtmfcblbpicbhoaaFmOpn
import Derived.Test.YtmfcblbpicbhoaaFmXFnExactVectorOfEq
set_option autoImplicit true
set_option maxRecDepth 100000
set_option linter.unusedVariables false
set_option linter.unusedSimpArgs false
set_option linter.unnecessarySimpa false
set_option linter.unusedSectionVars false
open Go Go.Fm Go.RowKit
namespace Go.Proofs.Ytmfcblbpicbhoaa.Fms
/-! ### base -/
theorem l1In_ev (n lo hi : Int) : Ev (fun k => spec_l1In k n lo hi) (decide (lo ≤ n ∧ n ≤ hi)) := ev_congr (fun k => by rw [spec_l1In_eq]) (by by_cases h : lo ≤ n <;> simp [ev_some_iff, h])

/-! ### inn -/
theorem in_ev (n lo hi : Int) : Ev (fun k => impl_in k n lo hi) (decide (lo ≤ n ∧ n ≤ hi)) := ev_congr (fun k => by rw [impl_in_eq]) (by by_cases h : lo ≤ n <;> simp [ev_some_iff, h])

/-! ### int -/
theorem eqIntS_ev (l) (hl : l.length ≤ 140737488355328) : Ev (fun k => laws_eqIntS k l l) true := by
  refine ev_congr (fun k => laws_eqIntS_eq k l l) ?_
  simp only [ev_ite_iff]
  rw [if_neg (by simp)]
  exact eq_row0 (e := .int .i64) (l := l) (c := fun x y => x = y) (fun k a b i => laws_eqIntS_h4_eq k a b i) (fun x => rfl) (by omega)

/-! ### events -/
abbrev EvK : Kind := .struct (.pair (.int .i64) (.pair (.int .i64) (.int .i64)))
abbrev EvT := Int × Int × Int
theorem mgetT_put : ∀ (m : List (Int × Bool)) (n x : Int), mgetT (.int .i64) .bool (mputT (.int .i64) .bool m n true) x = (decide (x = n) || mgetT (.int .i64) .bool m x)
  | [], n, x => by
    by_cases h : x = n <;> simp [mgetT, mputT, mfind, eqT, h, zeroT]
  | p :: m, n, x => by
    have ih := mgetT_put m n x
    simp only [mgetT, mputT, mfind, eqT] at ih ⊢
    by_cases h1 : n = p.1 <;> by_cases h2 : x = p.1 <;> by_cases h3 : x = n <;> simp_all [mfind, eqT]
def sentB (p : List EvT) (x : Int) : Bool := p.any fun o => decide (o.1 = 2) && decide (o.2.2 = x)
def takenB (p : List EvT) (x : Int) : Bool := p.any fun o => decide (o.1 = 3) && decide (o.2.2 = x)
def sameB (p : List EvT) (k x : Int) : Bool := p.any fun o => decide (o.1 = k) && decide (o.2.2 = x)
def inI (x a b : Int) : Bool := decide (a ≤ x ∧ x ≤ b)
/-- Is an event good behind these? -/
def evOk (p : List EvT) (e : EvT) : Bool := inI e.1 1 3 && inI e.2.1 0 5 && (if e.1 = 1 then decide (e.2.2 = 0) else !sameB p e.1 e.2.2 && inI e.2.2 1 1000 && (!decide (e.1 = 3) || sentB p e.2.2))
def goodFrom (p : List EvT) : List EvT → Bool
  | [] => true
  | e :: r => evOk p e && goodFrom (p ++ [e]) r
def events (l : List EvT) : Bool := goodFrom [] l && decide (l.length ≤ 60)
theorem dec_len (n : Nat) : decide ((n : Int) ≤ 60) = decide (n ≤ 60) := by by_cases h : n ≤ 60 <;> simp [h] <;> omega
theorem no13 (x : Int) (h1 : ¬ x = 1) (h2 : ¬ x = 2) (h3 : ¬ x = 3) : ¬ (1 ≤ x ∧ x ≤ 3) := by omega
/-! ### the impl's look -/
theorem areEvents_ev (l : List EvT) (hl : l.length ≤ 1048576) : Ev (fun k => impl_areEvents k l) (events l) := by
  have key := drop_ind0 l (fun n rest => (∀ o ∈ l.take n, o.1 = 2 → 1 ≤ o.2.2 ∧ o.2.2 ≤ 1000) → ∀ s t : List (Int × Bool), (∀ x, mgetT (.int .i64) .bool s x = sentB (l.take n) x) → (∀ x, mgetT (.int .i64) .bool t x = takenB (l.take n) x) →
      Ev (fun k => impl_areEvents_h3 k l s t l (l.length : Int) (n : Int)) (goodFrom (l.take n) rest && decide (l.length ≤ 60))) ?_ ?_
  · exact ev_congr (fun k => impl_areEvents_eq k l) (key (by simp) [] [] (by intro x; simp [mgetT, mfind, sentB, zeroT]) (by intro x; simp [mgetT, mfind, takenB, zeroT]))
  · intro _ s t _ _
    refine ev_last (fun k => ?_)
    rw [impl_areEvents_h3_eq, if_neg (by omega)]
    simp [goodFrom, dec_len]
  · intro n e rest hn he _ ih hp s t hs ht
    have hts := take_snoc he
    refine ev_shift ?_
    simp only [impl_areEvents_h3_eq, rdT_get (e := EvK) he, ev_bind_iff (in_ev _ _ _), hs, ht, wrap_nat (show n < 9223372036854775807 by omega), ev_ite_iff, ev_some_iff, ev_none_iff]
    have q0 : (0 : Int) ≤ (n : Int) := by omega
    have q1 : (n : Int) < (l.length : Int) := by omega
    rw [if_pos q1, if_pos q0]
    try rw [if_pos q1]
    have hno : goodFrom (l.take n) (e :: rest) = (evOk (l.take n) e && goodFrom (l.take n ++ [e]) rest) := rfl
    rw [hts] at ih
    by_cases h1 : e.1 = 1
    · rw [if_pos h1]
      have hi := ih (fun o ho h2 => by
        rcases List.mem_append.1 ho with h | h
        · exact hp o h h2
        · simp at h; subst h; exact absurd (h1.symm.trans h2) (by decide)) s t (fun x => by rw [hs x]; simp [sentB, h1]) (fun x => by rw [ht x]; simp [takenB, h1])
      by_cases hpr : 0 ≤ e.2.1 ∧ e.2.1 ≤ 5
      · by_cases hm : e.2.2 = 0
        · have : evOk (l.take n) e = true := by simp [evOk, inI, h1, hpr, hm]
          rw [hno, this, Bool.true_and]
          simpa [hpr, hm] using hi
        · have : evOk (l.take n) e = false := by simp [evOk, h1, hm]
          rw [hno, this, Bool.false_and, Bool.false_and]
          simp [hpr, hm]
      · have : evOk (l.take n) e = false := by simp [evOk, inI, hpr]
        rw [hno, this, Bool.false_and, Bool.false_and]
        simp [hpr]
    · rw [if_neg h1]
      by_cases h2 : e.1 = 2
      · rw [if_pos h2]
        by_cases hpr : 0 ≤ e.2.1 ∧ e.2.1 ≤ 5
        · by_cases hr : 1 ≤ e.2.2 ∧ e.2.2 ≤ 1000
          · cases hsb : sentB (l.take n) e.2.2 with
            | true =>
              have : evOk (l.take n) e = false := by
                have : sameB (l.take n) 2 e.2.2 = true := hsb
                simp [evOk, h2, this]
              rw [hno, this, Bool.false_and, Bool.false_and]
              simp [hpr, hr]
            | false =>
              have : evOk (l.take n) e = true := by
                have : sameB (l.take n) 2 e.2.2 = false := hsb
                simp [evOk, inI, h2, this, hpr, hr]
              rw [hno, this, Bool.true_and]
              have hi := ih (fun o ho h3 => ?_) (mputT (.int .i64) .bool s e.2.2 true) t (fun x => ?_) (fun x => ?_)
              · simpa [hpr, hr] using hi
              · rcases List.mem_append.1 ho with h | h
                · exact hp o h h3
                · simp at h; subst h; exact hr
              · rw [mgetT_put, hs x]
                by_cases hx : x = e.2.2
                · subst hx; simp [sentB, h2]
                · have hx' : ¬ e.2.2 = x := fun h => hx h.symm
                  simp [sentB, h2, hx, hx']
              · rw [ht x]; simp [takenB, h2]
          · have : evOk (l.take n) e = false := by simp [evOk, inI, h2, hr]
            rw [hno, this, Bool.false_and, Bool.false_and]
            simp [hpr, hr]
        · have : evOk (l.take n) e = false := by simp [evOk, inI, hpr]
          rw [hno, this, Bool.false_and, Bool.false_and]
          simp [hpr]
      · rw [if_neg h2]
        by_cases h3 : e.1 = 3
        · rw [if_pos h3]
          by_cases hpr : 0 ≤ e.2.1 ∧ e.2.1 ≤ 5
          · cases hsb : sentB (l.take n) e.2.2 with
            | false =>
              have : evOk (l.take n) e = false := by simp [evOk, h3, hsb]
              rw [hno, this, Bool.false_and, Bool.false_and]
              simp [hpr]
            | true =>
              have hr : 1 ≤ e.2.2 ∧ e.2.2 ≤ 1000 := by
                unfold sentB at hsb
                simp only [List.any_eq_true, Bool.and_eq_true, decide_eq_true_eq] at hsb
                obtain ⟨o, ho, q1, q2⟩ := hsb
                rw [← q2]; exact hp o ho q1
              cases htb : takenB (l.take n) e.2.2 with
              | true =>
                have : evOk (l.take n) e = false := by
                  have : sameB (l.take n) 3 e.2.2 = true := htb
                  simp [evOk, h3, this]
                rw [hno, this, Bool.false_and, Bool.false_and]
                simp [hpr]
              | false =>
                have : evOk (l.take n) e = true := by
                  have : sameB (l.take n) 3 e.2.2 = false := htb
                  simp [evOk, inI, h3, this, hpr, hr, hsb]
                rw [hno, this, Bool.true_and]
                have hi := ih (fun o ho h4 => ?_) s (mputT (.int .i64) .bool t e.2.2 true) (fun x => ?_) (fun x => ?_)
                · simpa [hpr, hr] using hi
                · rcases List.mem_append.1 ho with h | h
                  · exact hp o h h4
                  · simp at h; subst h; exact absurd (h3.symm.trans h4) (by decide)
                · rw [hs x]; simp [sentB, h3]
                · rw [mgetT_put, ht x]
                  by_cases hx : x = e.2.2
                  · subst hx; simp [takenB, h3]
                  · have hx' : ¬ e.2.2 = x := fun h => hx h.symm
                    simp [takenB, h3, hx, hx']
          · have : evOk (l.take n) e = false := by simp [evOk, inI, hpr]
            rw [hno, this, Bool.false_and, Bool.false_and]
            simp [hpr]
        · have : evOk (l.take n) e = false := by
            have : ¬ (1 ≤ e.1 ∧ e.1 ≤ 3) := no13 e.1 h1 h2 h3
            simp [evOk, inI, this]
          rw [hno, this, Bool.false_and, Bool.false_and]
          simp [h3]
/-! ### the spec's look -/
theorem spec_inner (l : List EvT) (n : Nat) (hn : n < l.length) (hl : l.length ≤ 1048576) (e : EvT) (r : Bool) (H : Ev (fun k => spec_GoodEvents_h2 k l l (l.length : Int) ((n + 1 : Nat) : Int)) r) :
    Ev (fun k => spec_GoodEvents_h11 k l e false l (l.length : Int) (n : Int) (l.take n) ((l.take n).length : Int) 0) (!sameB (l.take n) e.1 e.2.2 && inI e.2.2 1 1000 && (!decide (e.1 = 3) || sentB (l.take n) e.2.2) && r) := by
  have hlen : (l.take n).length = n := by simp; omega
  generalize hp : l.take n = p at hlen ⊢
  have key := drop_ind0 p (fun j rest => ∀ s, Ev (fun k => spec_GoodEvents_h11 k l e s l (l.length : Int) (n : Int) p (p.length : Int) (j : Int)) (!sameB rest e.1 e.2.2 && inI e.2.2 1 1000 && (!decide (e.1 = 3) || (s || sentB rest e.2.2)) && r)) ?_ ?_
  · simpa using key false
  · intro s
    refine ev_shift ?_
    simp only [spec_GoodEvents_h11_eq, ev_bind_iff (l1In_ev _ _ _), wrap_nat (show n < 9223372036854775807 by omega), ev_ite_iff, ev_some_iff]
    rw [if_neg (by omega)]
    have h0 : sameB [] e.1 e.2.2 = false := rfl
    have h1 : sentB [] e.2.2 = false := rfl
    rw [h0, h1, Bool.not_false, Bool.true_and, Bool.or_false]
    unfold inI
    by_cases hi : 1 ≤ e.2.2 ∧ e.2.2 ≤ 1000
    · by_cases h3 : e.1 = 3
      · cases s with
        | true => simpa [hi, h3] using H
        | false => simp [hi, h3]
      · simpa [hi, h3] using H
    · simp [hi]
  · intro j o rest hj ho _ ih s
    refine ev_shift ?_
    simp only [spec_GoodEvents_h11_eq, rdT_get (e := EvK) ho, wrap_nat (show j < 9223372036854775807 by omega), ev_ite_iff, ev_some_iff, ev_none_iff]
    rw [if_pos (by omega), if_pos (by omega), if_pos (by omega)]
    by_cases hm : o.2.2 = e.2.2
    · by_cases hk : o.1 = e.1
      · have : sameB (o :: rest) e.1 e.2.2 = true := by simp [sameB, hm, hk]
        rw [this]
        simp [hm, hk]
      · have h1 : sameB (o :: rest) e.1 e.2.2 = sameB rest e.1 e.2.2 := by simp [sameB, hk]
        have h2 : sentB (o :: rest) e.2.2 = (decide (o.1 = 2) || sentB rest e.2.2) := by simp [sentB, hm]
        rw [h1, h2]
        cases s with
        | true => simpa [hm, hk] using ih true
        | false => simpa [hm, hk] using ih (decide (o.1 = 2))
    · have h1 : sameB (o :: rest) e.1 e.2.2 = sameB rest e.1 e.2.2 := by simp [sameB, hm]
      have h2 : sentB (o :: rest) e.2.2 = sentB rest e.2.2 := by simp [sentB, hm]
      rw [h1, h2]
      cases s with
      | true => simpa [hm] using ih true
      | false => simpa [hm] using ih false
theorem specEvents_ev (l : List EvT) (hl : l.length ≤ 1048576) : Ev (fun k => spec_GoodEvents k l) (events l) := by
  have key := drop_ind0 l (fun n rest => Ev (fun k => spec_GoodEvents_h2 k l l (l.length : Int) (n : Int)) (goodFrom (l.take n) rest && decide (l.length ≤ 60))) ?_ ?_
  · exact ev_congr (fun k => spec_GoodEvents_eq k l) key
  · refine ev_last (fun k => ?_)
    rw [spec_GoodEvents_h2_eq, if_neg (by omega)]
    simp [goodFrom, dec_len]
  · intro n e rest hn he _ ih
    have hno : goodFrom (l.take n) (e :: rest) = (evOk (l.take n) e && goodFrom (l.take n ++ [e]) rest) := rfl
    rw [take_snoc he] at ih
    have hsl : (List.drop (Int.toNat 0) (List.take (Int.toNat (n : Int)) l)) = l.take n := by simp
    refine ev_shift ?_
    simp only [spec_GoodEvents_h2_eq, rdT_get (e := EvK) he, hsl, ev_bind_iff (l1In_ev _ _ _), wrap_nat (show n < 9223372036854775807 by omega), ev_ite_iff, ev_some_iff, ev_none_iff]
    have q0 : (0 : Int) ≤ (n : Int) := by omega
    have q1 : (n : Int) < (l.length : Int) := by omega
    rw [if_pos q1, if_pos q0]
    try rw [if_pos q1]
    by_cases hk : 1 ≤ e.1 ∧ e.1 ≤ 3
    · by_cases hpr : 0 ≤ e.2.1 ∧ e.2.1 ≤ 5
      · by_cases h1 : e.1 = 1
        · by_cases hm : e.2.2 = 0
          · have : evOk (l.take n) e = true := by simp [evOk, inI, h1, hpr, hm]
            rw [hno, this, Bool.true_and]
            simpa [h1, hpr, hm] using ih
          · have : evOk (l.take n) e = false := by simp [evOk, h1, hm]
            rw [hno, this, Bool.false_and, Bool.false_and]
            simp [h1, hpr, hm]
        · have := spec_inner l n hn hl e _ ih
          have e1 : evOk (l.take n) e = (!sameB (l.take n) e.1 e.2.2 && inI e.2.2 1 1000 && (!decide (e.1 = 3) || sentB (l.take n) e.2.2)) := by
            have a1 : inI e.1 1 3 = true := decide_eq_true hk
            have a2 : inI e.2.1 0 5 = true := decide_eq_true hpr
            simp only [evOk, a1, a2, if_neg h1, Bool.true_and]
          rw [hno, e1, Bool.and_assoc, if_neg (by simp [hk]), if_neg (by simp [hpr]), if_neg h1, if_pos (by omega), if_pos (by omega)]
          simpa only [Bool.and_assoc] using this
      · have : evOk (l.take n) e = false := by simp [evOk, inI, hpr]
        rw [hno, this, Bool.false_and, Bool.false_and]
        simp [hk, hpr]
    · have : evOk (l.take n) e = false := by simp [evOk, inI, hk]
      rw [hno, this, Bool.false_and, Bool.false_and]
      simp [hk]

/-! ### causes -/
/-! ### what an event depends on -/
def procP (e o : EvT) : Bool := decide (o.2.1 = e.2.1)
def sendP (e o : EvT) : Bool := decide (e.1 = 3) && decide (o.1 = 2) && decide (o.2.2 = e.2.2)
/-- The last place below n that fits, or -1. -/
def lastP (l : List EvT) (p : EvT → Bool) : Nat → Int
  | 0 => -1
  | n + 1 => if (l[n]?.any p) = true then (n : Int) else lastP l p n
/-- The places below n that fit. -/
def idxP (l : List EvT) (p : EvT → Bool) : Nat → List Int
  | 0 => []
  | n + 1 => if (l[n]?.any p) = true then idxP l p n ++ [(n : Int)] else idxP l p n
theorem lastP_lt (l : List EvT) (p : EvT → Bool) : ∀ n, -1 ≤ lastP l p n ∧ lastP l p n < n
  | 0 => by simp [lastP]
  | n + 1 => by
    have := lastP_lt l p n
    unfold lastP
    split <;> omega
theorem idxP_len (l : List EvT) (p : EvT → Bool) : ∀ n, (idxP l p n).length ≤ n
  | 0 => by simp [idxP]
  | n + 1 => by
    have := idxP_len l p n
    unfold idxP
    split
    · simp; omega
    · omega
theorem lastP_yes {l : List EvT} {p : EvT → Bool} {n : Nat} {o : EvT} (h : l[n]? = some o) (hp : p o = true) : lastP l p (n + 1) = n := by simp [lastP, h, hp]
theorem lastP_no {l : List EvT} {p : EvT → Bool} {n : Nat} {o : EvT} (h : l[n]? = some o) (hp : p o = false) : lastP l p (n + 1) = lastP l p n := by simp [lastP, h, hp]
theorem idxP_yes {l : List EvT} {p : EvT → Bool} {n : Nat} {o : EvT} (h : l[n]? = some o) (hp : p o = true) : idxP l p (n + 1) = idxP l p n ++ [(n : Int)] := by simp [idxP, h, hp]
theorem idxP_no {l : List EvT} {p : EvT → Bool} {n : Nat} {o : EvT} (h : l[n]? = some o) (hp : p o = false) : idxP l p (n + 1) = idxP l p n := by simp [idxP, h, hp]
theorem l2Causes_ev (l : List EvT) (i : Nat) (e : EvT) (he : l[i]? = some e) (hl : l.length ≤ 1048576) : Ev (fun k => spec_l2Causes k l (i : Int)) (lastP l (procP e) i, lastP l (sendP e) i) := by
  have hi : i < l.length := (List.getElem?_eq_some_iff.1 he).1
  have hlen : (l.take i).length = i := by simp; omega
  have key := up_ind i (fun n => Ev (fun k => spec_l2Causes_h4 k l (i : Int) (lastP l (procP e) n) (lastP l (sendP e) n) (l.take i) (i : Int) (n : Int)) (lastP l (procP e) i, lastP l (sendP e) i)) ?_ ?_ 0 (by omega)
  · refine ev_congr (fun k => spec_l2Causes_eq k l _) ?_
    have hsl : (List.drop (Int.toNat 0) (List.take (Int.toNat (i : Int)) l)) = l.take i := by simp
    rw [hsl, hlen]
    exact ev_if_pos (by omega) (ev_if_pos (by omega) key)
  · refine ev_last (fun k => ?_)
    rw [spec_l2Causes_h4_eq, if_neg (by omega)]
  · intro n hn ih
    have hx : l[n]? = some l[n] := List.getElem?_eq_getElem (by omega)
    have hx' : (l.take i)[n]? = some l[n] := by rw [List.getElem?_take_of_lt hn]; exact hx
    generalize l[n] = o at hx hx'
    have low : ∀ own : Int, own = lastP l (procP e) (n + 1) → Ev (fun k => spec_l2Causes_h8 k l (i : Int) own (lastP l (sendP e) n) (n : Int) o (l.take i) (i : Int) (n : Int)) (lastP l (procP e) i, lastP l (sendP e) i) := by
      intro own ho
      subst ho
      refine ev_shift ?_
      simp only [spec_l2Causes_h8_eq, rdT_get (e := EvK) he, wrap_nat (show n < 9223372036854775807 by omega), ev_ite_iff, ev_none_iff]
      have q0 : (0 : Int) ≤ (i : Int) := by omega
      have q1 : (i : Int) < (l.length : Int) := by omega
      simp only [if_pos q0, if_pos q1]
      by_cases h2 : e.1 = 3 ∧ o.1 = 2 ∧ o.2.2 = e.2.2
      · have q2 : sendP e o = true := by simp [sendP, h2]
        rw [lastP_yes hx q2] at ih
        simpa [h2] using ih
      · have q2 : sendP e o = false := by
          simp only [sendP, Bool.and_eq_false_iff, decide_eq_false_iff_not]
          by_cases a : e.1 = 3 <;> by_cases b : o.1 = 2 <;> by_cases c : o.2.2 = e.2.2 <;> simp_all
        rw [lastP_no hx q2] at ih
        by_cases a : e.1 = 3 <;> by_cases b : o.1 = 2 <;> by_cases c : o.2.2 = e.2.2 <;> simp_all
    refine ev_shift ?_
    simp only [spec_l2Causes_h4_eq, rdT_get (e := EvK) he, rdT_get (e := EvK) hx', hlen, ev_ite_iff, ev_none_iff]
    have q0 : (0 : Int) ≤ (n : Int) := by omega
    have q1 : (n : Int) < (i : Int) := by omega
    have q2 : (0 : Int) ≤ (i : Int) := by omega
    have q3 : (i : Int) < (l.length : Int) := by omega
    simp only [if_pos q0, if_pos q1, if_pos q2, if_pos q3]
    by_cases h1 : o.2.1 = e.2.1
    · rw [if_pos h1]
      exact low _ (lastP_yes hx (by simp [procP, h1])).symm
    · rw [if_neg h1]
      exact low _ (lastP_no hx (by simp [procP, h1])).symm
def ownP (l : List EvT) (e : EvT) (i : Nat) : List Int := if lastP l (procP e) i ≥ 0 then [lastP l (procP e) i] else []
def causesP (l : List EvT) (e : EvT) (i : Nat) : List Int := ownP l e i ++ idxP l (sendP e) i
theorem causes_ev (l : List EvT) (i : Nat) (e : EvT) (he : l[i]? = some e) (hl : l.length ≤ 1048576) : Ev (fun k => impl_causes k l (i : Int)) (causesP l e i) := by
  have hi : i < l.length := (List.getElem?_eq_some_iff.1 he).1
  have q2 : (0 : Int) ≤ (i : Int) := by omega
  have q3 : (i : Int) < (l.length : Int) := by omega
  have low : ∀ st : List Int, st.length ≤ 1 → Ev (fun k => impl_causes_h7 k l (i : Int) st) (st ++ idxP l (sendP e) i) := by
    intro st hst
    have key := up_ind i (fun n => Ev (fun k => impl_causes_h8 k l (i : Int) (st ++ idxP l (sendP e) n) (i : Int) (n : Int)) (st ++ idxP l (sendP e) i)) ?_ ?_ 0 (by omega)
    · refine ev_shift (ev_congr (fun k => impl_causes_h7_eq k l _ st) ?_)
      simpa [idxP] using key
    · refine ev_last (fun k => ?_)
      rw [impl_causes_h8_eq, if_neg (by omega)]
    · intro n hn ih
      have hx : l[n]? = some l[n] := List.getElem?_eq_getElem (by omega)
      generalize l[n] = o at hx
      have hlen := idxP_len l (sendP e) n
      have hap : (st ++ idxP l (sendP e) n).length + (List.cons (n : Int) []).length ≤ 17592186044416 := by simp only [List.length_append, List.length_cons, List.length_nil]; omega
      refine ev_shift ?_
      simp only [impl_causes_h8_eq, rdT_get (e := EvK) he, rdT_get (e := EvK) hx, wrap_nat (show n < 9223372036854775807 by omega), ev_ite_iff, ev_none_iff]
      have q0 : (0 : Int) ≤ (n : Int) := by omega
      have q1 : (n : Int) < (i : Int) := by omega
      have q4 : (n : Int) < (l.length : Int) := by omega
      simp only [if_pos q0, if_pos q1, if_pos q2, if_pos q3, if_pos q4, if_pos hap]
      by_cases h2 : e.1 = 3 ∧ o.1 = 2 ∧ o.2.2 = e.2.2
      · rw [idxP_yes hx (by simp [sendP, h2]), ← List.append_assoc] at ih
        simpa [h2] using ih
      · have q : sendP e o = false := by
          simp only [sendP, Bool.and_eq_false_iff, decide_eq_false_iff_not]
          by_cases a : e.1 = 3 <;> by_cases b : o.1 = 2 <;> by_cases c : o.2.2 = e.2.2 <;> simp_all
        rw [idxP_no hx q] at ih
        by_cases a : e.1 = 3 <;> by_cases b : o.1 = 2 <;> by_cases c : o.2.2 = e.2.2 <;> simp_all
  have up : ∀ j, j ≤ i → lastP l (procP e) i = lastP l (procP e) j → Ev (fun k => impl_causes_h3 k l (i : Int) [] ((j : Int) - 1)) (causesP l e i) := by
    intro j
    induction j with
    | zero =>
      intro _ h
      refine ev_shift ?_
      simp only [impl_causes_h3_eq, ev_ite_iff, ev_none_iff]
      rw [if_neg (by omega)]
      have : ownP l e i = [] := by simp [ownP, h, lastP]
      unfold causesP
      rw [this]
      exact low [] (by simp)
    | succ j ih =>
      intro hj h
      have hx : l[j]? = some l[j] := List.getElem?_eq_getElem (by omega)
      generalize l[j] = o at hx
      refine ev_shift ?_
      have e1 : ((j + 1 : Nat) : Int) - 1 = (j : Int) := by omega
      have hap : (([] : List Int).length + (List.cons (j : Int) []).length) ≤ 17592186044416 := by simp
      have w : wrap64 ((j : Int) - 1) = (j : Int) - 1 := wrap_of (by omega) (by omega)
      simp only [impl_causes_h3_eq, e1, rdT_get (e := EvK) he, rdT_get (e := EvK) hx, w, ev_ite_iff, ev_none_iff]
      have q0 : (0 : Int) ≤ (j : Int) := by omega
      have q4 : (j : Int) < (l.length : Int) := by omega
      simp only [if_pos q0, if_pos q2, if_pos q3, if_pos q4, if_pos hap]
      by_cases h1 : o.2.1 = e.2.1
      · rw [if_pos h1]
        rw [lastP_yes hx (by simp [procP, h1])] at h
        have : ownP l e i = [(j : Int)] := by simp [ownP, h]
        unfold causesP
        rw [this]
        exact low [(j : Int)] (by simp)
      · rw [if_neg h1]
        rw [lastP_no hx (by simp [procP, h1])] at h
        exact ih (by omega) h
  refine ev_congr (fun k => impl_causes_eq k l _) ?_
  rw [wrap_of (by omega) (by omega)]
  exact up i (Nat.le_refl _) rfl
/-- A message is sent once. -/
theorem good_snoc : ∀ (r p : List EvT), goodFrom p r = true → ∀ (n : Nat) (e : EvT), r[n]? = some e → evOk (p ++ r.take n) e = true
  | [], _, _, n, e, he => by simp at he
  | x :: r, p, h, n, e, he => by
    simp only [goodFrom, Bool.and_eq_true] at h
    cases n with
    | zero => simp at he; subst he; simpa using h.1
    | succ n =>
      have := good_snoc r (p ++ [x]) h.2 n e (by simpa using he)
      simpa using this
theorem good_at {l : List EvT} (h : events l = true) {n : Nat} {e : EvT} (he : l[n]? = some e) : evOk (l.take n) e = true := by
  have h' : goodFrom [] l = true := by
    have := h
    simp only [events, Bool.and_eq_true] at this
    exact this.1
  simpa using good_snoc l [] h' n e he
theorem send_once {l : List EvT} (h : events l = true) {j n : Nat} {a b : EvT} (hjn : j < n) (ha : l[j]? = some a) (hb : l[n]? = some b) (h2 : a.1 = 2) (h3 : b.1 = 2) : a.2.2 ≠ b.2.2 := by
  intro heq
  have := good_at h hb
  have ne1 : b.1 ≠ 1 := by rw [h3]; decide
  simp only [evOk, if_neg ne1, Bool.and_eq_true, Bool.not_eq_true'] at this
  have hs := this.2.1.1
  have : sameB (l.take n) b.1 b.2.2 = true := by
    simp only [sameB, List.any_eq_true]
    exact ⟨a, List.mem_of_getElem? (by rw [List.getElem?_take_of_lt hjn]; exact ha), by simp [h2, h3, heq]⟩
  rw [this] at hs
  cases hs
theorem idx_one {l : List EvT} (h : events l = true) (e : EvT) : ∀ n, idxP l (sendP e) n = if lastP l (sendP e) n ≥ 0 then [lastP l (sendP e) n] else []
  | 0 => by simp [idxP, lastP]
  | n + 1 => by
    have ih := idx_one h e n
    cases hx : l[n]? with
    | none => simp only [idxP, lastP, hx]; simpa using ih
    | some o =>
      cases hp : sendP e o with
      | false => rw [idxP_no hx hp, lastP_no hx hp]; exact ih
      | true =>
        rw [idxP_yes hx hp, lastP_yes hx hp]
        have : idxP l (sendP e) n = [] := by
          have none : ∀ m, m ≤ n → idxP l (sendP e) m = [] := by
            intro m
            induction m with
            | zero => intro _; rfl
            | succ m ih2 =>
              intro hm
              cases hy : l[m]? with
              | none => simp only [idxP, hy]; simpa using ih2 (by omega)
              | some q =>
                have : sendP e q = false := by
                  cases hq : sendP e q with
                  | false => rfl
                  | true =>
                    simp only [sendP, Bool.and_eq_true, decide_eq_true_eq] at hp hq
                    exact absurd (hq.2.trans hp.2.symm) (send_once h (by omega) hy hx hq.1.2 hp.1.2)
                rw [idxP_no hy this]
                exact ih2 (by omega)
          exact none n (Nat.le_refl _)
        rw [this]
        simp

/-! ### markint -/
theorem markIntS_ev (l : List Int) (m : Int) (h0 : 0 ≤ m) (hm : m + l.length ≤ 1073741824) : Ev (fun k => laws_markIntS k l m) (mkList (fun k => k) m 1 l.length, m + 1 * (l.length : Int)) := by
  refine ev_congr (fun k => laws_markIntS_eq k l m) ?_
  refine mark_loop (fun k l c i => laws_markIntS_h2 k l c i) (fun k => k) m 1 l.length (fun k xs c hx => ?_) (fun n xs r hn hx H => ?_) l rfl
  · rw [laws_markIntS_h2_eq, if_neg (by omega)]
  · refine ev_shift ?_
    simp only [laws_markIntS_h2_eq, ev_ite_iff, Int.toNat_natCast, wrap_nat (show n < 9223372036854775807 by omega), wrap_of (x := m + 1 * (n : Int) + 1) (by omega) (by omega)]
    rw [if_pos (by omega), if_pos (by omega), if_pos (by omega)]
    rw [show m + 1 * (n : Int) + 1 = m + 1 * ((n + 1 : Nat) : Int) by omega]
    exact H

/-! ### heldint -/
theorem heldIntS_ev (m : Int) (N : Nat) (h0 : 0 ≤ m) (hm : m + N ≤ 1073741824) : Ev (fun k => laws_heldIntS k (mkList (fun k => k) m 1 N) m) (m + 1 * (N : Int)) := by
  refine ev_congr (fun k => laws_heldIntS_eq k _ m) ?_
  have hl := mkList_len (fun k : Int => k) m 1 N
  refine held_loop (fun k c i => laws_heldIntS_h2 k (mkList (fun k => k) m 1 N) c i) (fun k => k) m 1 N (fun k c => ?_) (fun n r hn hx H => ?_)
  · rw [laws_heldIntS_h2_eq, if_neg (by omega)]
  · refine ev_shift ?_
    simp only [laws_heldIntS_h2_eq, ev_ite_iff, rdT_get (e := .int .i64) hx, wrap_nat (show n < 9223372036854775807 by omega), wrap_of (x := m + 1 * (n : Int) + 1) (by omega) (by omega)]
    rw [if_pos (by omega), if_pos (by omega), if_pos (by omega), if_neg (by simp)]
    rw [show m + 1 * (n : Int) + 1 = m + 1 * ((n + 1 : Nat) : Int) by omega]
    exact H

/-! ### vectorof -/
/-! VectorOf -/
abbrev ClT := List Int
abbrev ClK : Kind := .struct (.slice (.int .i64))
def mx (x y : Int) : Int := if x < y then y else x
def mer (a b : ClT) : ClT := List.zipWith mx a b
theorem mer_len {a b : ClT} (h : a.length = 6) (h' : b.length = 6) : (mer a b).length = 6 := by simp [mer, h, h']
theorem mer_get {a b : ClT} {n : Nat} {x y : Int} (hx : a[n]? = some x) (hy : b[n]? = some y) : (mer a b)[n]? = some (mx x y) := by simp [mer, List.getElem?_zipWith, hx, hy]
theorem merge_ev (a b : ClT) (ha : a.length = 6) (hb : b.length = 6) : Ev (fun k => spec_l2Merge k a b) (mer a b) := by
  refine ev_congr (fun k => spec_l2Merge_eq k a b) (ev_if_pos (by omega) ?_)
  have hml := mer_len ha hb
  have key := up_ind b.length (fun n => Ev (fun k => spec_l2Merge_h3 k ((mer a b).take n ++ a.drop n) b (b.length : Int) (n : Int)) (mer a b)) ?_ ?_ 0 (by omega)
  · simpa using key
  · refine ev_last fun k => ?_
    rw [spec_l2Merge_h3_eq, if_neg (by omega), List.take_of_length_le (by omega), List.drop_eq_nil_of_le (by omega), List.append_nil]
  · intro n hn ih
    have hy : b[n]? = some b[n] := List.getElem?_eq_getElem hn
    have hx : a[n]? = some (a[n]'(by omega)) := List.getElem?_eq_getElem (by omega)
    generalize b[n] = y at hy
    generalize a[n]'(by omega) = x at hx
    have hm := mer_get hx hy
    have hdr : a.drop n = x :: a.drop (n + 1) := by
      rw [List.drop_eq_getElem_cons (by omega)]
      congr 1
      rw [List.getElem?_eq_getElem (by omega)] at hx
      exact Option.some.inj hx
    have hlen : ((mer a b).take n ++ a.drop n).length = 6 := by rw [List.length_append, List.length_take, List.length_drop]; omega
    have hget : ((mer a b).take n ++ a.drop n)[n]? = some x := by
      rw [List.getElem?_append_right (by rw [List.length_take]; omega), List.length_take, show n - min n (mer a b).length = 0 by omega, hdr]; rfl
    have hnext : (mer a b).take (n + 1) ++ a.drop (n + 1) = ((mer a b).take n ++ a.drop n).set n (mx x y) := by
      rw [take_snoc hm, hdr, List.set_append_right _ _ (by rw [List.length_take]; omega), List.length_take, show n - min n (mer a b).length = 0 by omega, List.set_cons_zero, List.append_assoc]; rfl
    have d1 : (n : Int) < (b.length : Int) := by omega
    have d2 : (0 : Int) ≤ (n : Int) := by omega
    have d3 : (n : Int) < ((((mer a b).take n ++ a.drop n).length : Nat) : Int) := by omega
    rw [hnext] at ih
    generalize (mer a b).take n ++ a.drop n = cur at hget ih d3
    refine ev_shift ?_
    simp only [spec_l2Merge_h3_eq, ev_ite_iff, ev_none_iff, rdT_get (e := .int .i64) hy, rdT_get (e := .int .i64) hget, wrap_nat (show n < 9223372036854775807 by omega), Int.toNat_natCast]
    rw [if_pos d1, if_pos d2, if_pos d1, if_pos d2, if_pos d3]
    by_cases hlt : x < y
    · rw [if_pos hlt, if_pos d2, if_pos d3]
      rw [mx, if_pos hlt] at ih
      exact ih
    · rw [if_neg hlt]
      rw [mx, if_neg hlt] at ih
      have : cur.set n x = cur := by
        apply List.ext_getElem?
        intro j
        by_cases hj : j = n
        · subst hj
          rw [List.getElem?_set_self ((List.getElem?_eq_some_iff.1 hget).1), hget]
        · rw [List.getElem?_set_ne (Ne.symm hj)]
      rw [this] at ih
      exact ih
theorem greater_ev (a b : ClT) (ha : a.length = 6) (hb : b.length = 6) : Ev (fun k => impl_greater k a b) (mer a b) := by
  refine ev_congr (fun k => impl_greater_eq k a b) ?_
  have hml := mer_len ha hb
  have key := up_ind a.length (fun n => Ev (fun k => impl_greater_h3 k b ((mer a b).take n) a (a.length : Int) (n : Int)) (mer a b)) ?_ ?_ 0 (by omega)
  · simpa using key
  · refine ev_last fun k => ?_
    rw [impl_greater_h3_eq, if_neg (by omega), List.take_of_length_le (by omega)]
  · intro n hn ih
    have hx : a[n]? = some a[n] := List.getElem?_eq_getElem hn
    have hy : b[n]? = some (b[n]'(by omega)) := List.getElem?_eq_getElem (by omega)
    generalize a[n] = x at hx
    generalize b[n]'(by omega) = y at hy
    have hm := mer_get hx hy
    rw [take_snoc hm] at ih
    have d1 : (n : Int) < (a.length : Int) := by omega
    have d2 : (0 : Int) ≤ (n : Int) := by omega
    have d3 : (n : Int) < (b.length : Int) := by omega
    have hl : ((mer a b).take n).length ≤ 6 := by rw [List.length_take]; omega
    generalize (mer a b).take n = cur at ih hl
    refine ev_shift ?_
    simp only [impl_greater_h3_eq, ev_ite_iff, ev_none_iff, rdT_get (e := .int .i64) hx, rdT_get (e := .int .i64) hy, wrap_nat (show n < 9223372036854775807 by omega)]
    rw [if_pos d1, if_pos d2, if_pos d1, if_pos d2, if_pos d3, if_pos (by simp; omega)]
    exact ih
/-- one event's clock -/
def foldV (V : List ClT) (at0 : ClT) (L : List Int) : ClT := L.foldl (fun a k => mer a (V.getD k.toNat [])) at0
def okCl (b : Int) (v : ClT) : Prop := v.length = 6 ∧ ∀ x ∈ v, 0 ≤ x ∧ x ≤ b
theorem okCl_mer {b : Int} {v w : ClT} (h : okCl b v) (h' : okCl b w) : okCl b (mer v w) := by
  refine ⟨mer_len h.1 h'.1, fun x hx => ?_⟩
  obtain ⟨n, hn⟩ := List.mem_iff_getElem?.1 hx
  have hlt : n < 6 := by have := (List.getElem?_eq_some_iff.1 hn).1; rw [mer_len h.1 h'.1] at this; exact this
  have h1 : v[n]? = some (v[n]'(by rw [h.1]; exact hlt)) := List.getElem?_eq_getElem _
  have h2 : w[n]? = some (w[n]'(by rw [h'.1]; exact hlt)) := List.getElem?_eq_getElem _
  rw [mer_get h1 h2] at hn
  have e := Option.some.inj hn
  have g1 := h.2 _ (List.mem_of_getElem? h1)
  have g2 := h'.2 _ (List.mem_of_getElem? h2)
  unfold mx at e
  split at e <;> (subst e; assumption)
theorem foldV_ok {b : Int} {V : List ClT} (hV : ∀ v ∈ V, okCl b v) : ∀ (L : List Int) (a : ClT), okCl b a → (∀ k ∈ L, ∃ j : Nat, j < V.length ∧ k = (j : Int)) → okCl b (foldV V a L)
  | [], a, ha, _ => ha
  | k :: L, a, ha, hL => by
    obtain ⟨j, hj, e⟩ := hL k (by simp)
    have hg : V.getD k.toNat [] = V[j] := by rw [e]; simp [List.getD, hj]
    show okCl b (foldV V (mer a (V.getD k.toNat [])) L)
    rw [hg]
    exact foldV_ok hV L _ (okCl_mer ha (hV _ (List.getElem_mem hj))) (fun k' hk' => hL k' (by simp [hk']))
def zero6 : ClT := List.replicate 6 0
theorem ok_zero {b : Int} (hb : 0 ≤ b) : okCl b zero6 := ⟨rfl, fun x hx => by have := (List.mem_replicate.1 hx).2; omega⟩
def nextV (l : List EvT) (V : List ClT) (e : EvT) (i : Nat) : ClT :=
  (foldV V zero6 (causesP l e i)).set e.2.1.toNat (rdT (.int .i64) (foldV V zero6 (causesP l e i)) e.2.1 + 1)
def runV (l : List EvT) : Nat → List EvT → List ClT → List ClT
  | _, [], V => V
  | i, e :: r, V => runV l (i + 1) r (V ++ [nextV l V e i])
theorem procs {l : List EvT} (h : events l = true) {i : Nat} {e : EvT} (he : l[i]? = some e) : ∃ p : Nat, p < 6 ∧ e.2.1 = (p : Int) := by
  have := good_at h he
  simp only [evOk, inI, Bool.and_eq_true, decide_eq_true_eq] at this
  exact ⟨e.2.1.toNat, by omega, by omega⟩
theorem idxP_lt (l : List EvT) (p : EvT → Bool) : ∀ n, ∀ x ∈ idxP l p n, ∃ j : Nat, j < n ∧ x = (j : Int)
  | 0, x, hx => by simp [idxP] at hx
  | n + 1, x, hx => by
    cases ho : l[n]? with
    | none =>
      simp only [idxP, ho] at hx
      obtain ⟨j, hj, e⟩ := idxP_lt l p n x (by simpa using hx)
      exact ⟨j, by omega, e⟩
    | some o =>
      cases hp : p o with
      | true =>
        rw [idxP_yes ho hp] at hx
        rcases List.mem_append.1 hx with hx | hx
        · obtain ⟨j, hj, e⟩ := idxP_lt l p n x hx
          exact ⟨j, by omega, e⟩
        · exact ⟨n, by omega, List.mem_singleton.1 hx⟩
      | false =>
        rw [idxP_no ho hp] at hx
        obtain ⟨j, hj, e⟩ := idxP_lt l p n x hx
        exact ⟨j, by omega, e⟩
theorem cause_lt (l : List EvT) (e : EvT) (i : Nat) : ∀ x ∈ causesP l e i, ∃ j : Nat, j < i ∧ x = (j : Int) := by
  intro x hx
  unfold causesP at hx
  rcases List.mem_append.1 hx with hx | hx
  · unfold ownP at hx
    split at hx
    · rename_i h
      have := lastP_lt l (procP e) i
      rw [List.mem_singleton.1 hx]
      exact ⟨(lastP l (procP e) i).toNat, by omega, by omega⟩
    · cases hx
  · exact idxP_lt l (sendP e) i x hx
theorem nextV_ok {l : List EvT} (h : events l = true) {V : List ClT} {i : Nat} {e : EvT} (he : l[i]? = some e) (hl : V.length = i) (hV : ∀ v ∈ V, okCl (i : Int) v) : okCl ((i : Int) + 1) (nextV l V e i) ∧ okCl (i : Int) (foldV V zero6 (causesP l e i)) := by
  have hf := foldV_ok hV (causesP l e i) zero6 (ok_zero (by omega)) (fun k hk => by rw [hl]; exact cause_lt l e i k hk)
  refine ⟨?_, hf⟩
  obtain ⟨p, hp, ep⟩ := procs h he
  unfold nextV
  refine ⟨by rw [List.length_set]; exact hf.1, fun x hx => ?_⟩
  rcases List.mem_or_eq_of_mem_set hx with hx | hx
  · have := hf.2 x hx; omega
  · have hg : (foldV V zero6 (causesP l e i))[p]? = some ((foldV V zero6 (causesP l e i))[p]'(by rw [hf.1]; exact hp)) := List.getElem?_eq_getElem _
    rw [ep, rdT_get (e := .int .i64) hg] at hx
    have := hf.2 _ (List.mem_of_getElem? hg)
    subst hx
    omega
theorem runV_ok {l : List EvT} (h : events l = true) : ∀ (r : List EvT) (i : Nat) (V : List ClT), l.drop i = r → V.length = i → (∀ v ∈ V, okCl (i : Int) v) → (runV l i r V).length = i + r.length ∧ ∀ v ∈ runV l i r V, okCl ((i + r.length : Nat) : Int) v
  | [], i, V, _, hl, hV => ⟨hl, hV⟩
  | e :: r, i, V, hd, hl, hV => by
    have he : l[i]? = some e := by
      have := congrArg (fun z : List EvT => z[0]?) hd
      simpa using this
    have hn := (nextV_ok h he hl hV).1
    have := runV_ok h r (i + 1) (V ++ [nextV l V e i]) (drop_next hd) (by simp [hl]) (fun v hv => by
      rcases List.mem_append.1 hv with hv | hv
      · have := hV v hv; exact ⟨this.1, fun x hx => by have := this.2 x hx; omega⟩
      · rw [List.mem_singleton.1 hv]; exact ⟨hn.1, fun x hx => by have := hn.2 x hx; omega⟩)
    simp only [runV, List.length_cons]
    rw [show i + (r.length + 1) = i + 1 + r.length by omega]
    exact this
section
variable {l : List EvT} (hl : l.length ≤ 60) (hg : events l = true)
theorem step_set {V : List ClT} {i : Nat} {e : EvT} (hg : events l = true) (he : l[i]? = some e) (hVl : V.length = i) (hV : ∀ v ∈ V, okCl (i : Int) v) (hi : i ≤ 60) : ∃ a p, foldV V zero6 (causesP l e i) = a ∧ e.2.1 = ((p : Nat) : Int) ∧ p < a.length ∧ a.length = 6 ∧ a.set p (wrap64 (rdT (.int .i64) a (p : Int) + 1)) = nextV l V e i := by
  obtain ⟨p, hp, ep⟩ := procs hg he
  have hf := (nextV_ok hg he hVl hV).2
  refine ⟨_, p, rfl, ep, by rw [hf.1]; exact hp, hf.1, ?_⟩
  have hgp : (foldV V zero6 (causesP l e i))[p]? = some ((foldV V zero6 (causesP l e i))[p]'(by rw [hf.1]; exact hp)) := List.getElem?_eq_getElem _
  have hb := hf.2 _ (List.mem_of_getElem? hgp)
  unfold nextV
  rw [ep, rdT_get (e := .int .i64) hgp, wrap_of (by omega) (by omega)]
  rfl
theorem implRun_ev : ∀ (r : List EvT) (i : Nat) (V : List ClT), l.drop i = r → V.length = i → (∀ v ∈ V, okCl (i : Int) v) → l.length ≤ 60 → events l = true → Ev (fun k => impl_vectors_h3 k l V l (l.length : Int) (i : Int)) (runV l i r V)
  | [], i, V, hd, hVl, hV, hl, hg => by
    have : l.length ≤ i := by
      have := congrArg List.length hd
      simp only [List.length_drop, List.length_nil] at this; omega
    exact ev_last fun k => by rw [impl_vectors_h3_eq, if_neg (by omega)]; rfl
  | e :: r, i, V, hd, hVl, hV, hl, hg => by
    have he : l[i]? = some e := by
      have := congrArg (fun z : List EvT => z[0]?) hd
      simpa using this
    have hlt := (List.getElem?_eq_some_iff.1 he).1
    have hn := (nextV_ok hg he hVl hV).1
    have ih := implRun_ev r (i + 1) (V ++ [nextV l V e i]) (drop_next hd) (by simp [hVl]) (fun v hv => by
      rcases List.mem_append.1 hv with hv | hv
      · have := hV v hv; exact ⟨this.1, fun x hx => by have := this.2 x hx; omega⟩
      · rw [List.mem_singleton.1 hv]; exact ⟨hn.1, fun x hx => by have := hn.2 x hx; omega⟩) hl hg
    have d1 : (i : Int) < (l.length : Int) := by omega
    have d2 : (0 : Int) ≤ (i : Int) := by omega
    obtain ⟨af, p, haf, ep, hp, ha6, hset⟩ := step_set hg he hVl hV (by omega)
    have hcl := cause_lt l e i
    have hin := drop_ind0 (causesP l e i) (fun j rs => ∀ a : ClT, okCl (i : Int) a → foldV V a rs = af → Ev (fun k => impl_vectors_h7 k l V e a l (l.length : Int) (i : Int) (causesP l e i) ((causesP l e i).length : Int) (j : Int)) (runV l (i + 1) r (V ++ [nextV l V e i]))) ?_ ?_
    · refine ev_shift ?_
      simp only [impl_vectors_h3_eq, ev_ite_iff, ev_none_iff, rdT_get (e := EvK) he, ev_bind_iff (causes_ev l i e he (by omega))]
      rw [if_pos d1, if_pos d2, if_pos d1]
      exact hin zero6 (ok_zero (by omega)) haf
    · intro a _ ha
      have ha' : a = af := ha
      subst ha'
      have g1 : (0 : Int) ≤ (p : Int) := by omega
      have g2 : (p : Int) < (a.length : Int) := by omega
      refine ev_shift ?_
      simp only [impl_vectors_h7_eq, ev_ite_iff, ev_none_iff, ep, Int.toNat_natCast, hset, wrap_nat (show i < 9223372036854775807 by omega)]
      rw [if_neg (by omega), if_pos g1, if_pos g2, if_pos g1, if_pos g2, if_pos (by simp; omega)]
      exact ih
    · intro j c rs hj hc hd2 ihj a ha hfa
      obtain ⟨q, hq, rfl⟩ := hcl c (List.mem_of_getElem? hc)
      have hgq : V[q]? = some (V[q]'(by omega)) := List.getElem?_eq_getElem _
      have hvq := hV _ (List.mem_of_getElem? hgq)
      have hgd : V.getD (q : Int).toNat [] = V[q]'(by omega) := by simp [List.getD, hgq]
      have hfa' : foldV V (mer a (V.getD (q : Int).toNat [])) rs = af := hfa
      rw [hgd] at hfa'
      have e1 : (j : Int) < ((causesP l e i).length : Int) := by omega
      have e2 : (0 : Int) ≤ (j : Int) := by omega
      have e3 : (0 : Int) ≤ (q : Int) := by omega
      have e4 : (q : Int) < (V.length : Int) := by omega
      have hjb : j < 9223372036854775807 := by
        have hlc : (causesP l e i).length ≤ i + 1 := by
          have h1 := idxP_len l (sendP e) i
          have h2 : (ownP l e i).length ≤ 1 := by unfold ownP; split <;> simp
          unfold causesP; rw [List.length_append]; omega
        omega
      refine ev_shift ?_
      simp only [impl_vectors_h7_eq, ev_ite_iff, ev_none_iff, rdT_get (e := .int .i64) hc, rdT_get (e := ClK) hgq, wrap_nat hjb, ev_bind_iff (greater_ev a (V[q]'(by omega)) ha.1 hvq.1)]
      rw [if_pos e1, if_pos e2, if_pos e1, if_pos e3, if_pos e4]
      exact ihj _ (okCl_mer ha hvq) hfa'
theorem causes_two {i : Nat} {e : EvT} (hg : events l = true) : causesP l e i = (if 0 ≤ lastP l (procP e) i then [lastP l (procP e) i] else []) ++ (if 0 ≤ lastP l (sendP e) i then [lastP l (sendP e) i] else []) := by
  unfold causesP ownP
  rw [idx_one hg]
theorem specRun_ev : ∀ (r : List EvT) (i : Nat) (V : List ClT), l.drop i = r → V.length = i → (∀ v ∈ V, okCl (i : Int) v) → l.length ≤ 60 → events l = true → Ev (fun k => spec_VectorOf_h5 k l V l (l.length : Int) (i : Int)) (runV l i r V, true)
  | [], i, V, hd, hVl, hV, hl, hg => by
    have : l.length ≤ i := by
      have := congrArg List.length hd
      simp only [List.length_drop, List.length_nil] at this; omega
    exact ev_last fun k => by rw [spec_VectorOf_h5_eq, if_neg (by omega)]; rfl
  | e :: r, i, V, hd, hVl, hV, hl, hg => by
    have he : l[i]? = some e := by
      have := congrArg (fun z : List EvT => z[0]?) hd
      simpa using this
    have hlt := (List.getElem?_eq_some_iff.1 he).1
    have hn := (nextV_ok hg he hVl hV).1
    have ih := specRun_ev r (i + 1) (V ++ [nextV l V e i]) (drop_next hd) (by simp [hVl]) (fun v hv => by
      rcases List.mem_append.1 hv with hv | hv
      · have := hV v hv; exact ⟨this.1, fun x hx => by have := this.2 x hx; omega⟩
      · rw [List.mem_singleton.1 hv]; exact ⟨hn.1, fun x hx => by have := hn.2 x hx; omega⟩) hl hg
    have d1 : (i : Int) < (l.length : Int) := by omega
    have d2 : (0 : Int) ≤ (i : Int) := by omega
    obtain ⟨af, p, haf, ep, hp, ha6, hset⟩ := step_set hg he hVl hV (by omega)
    rw [causes_two hg] at haf
    have b1 := lastP_lt l (procP e) i
    have b2 := lastP_lt l (sendP e) i
    generalize hc0 : lastP l (procP e) i = c0 at haf b1
    generalize hc1 : lastP l (sendP e) i = c1 at haf b2
    have hfil : (if 0 ≤ c0 then [c0] else []) ++ (if 0 ≤ c1 then [c1] else []) = [c0, c1].filter fun c => decide (0 ≤ c) := by
      by_cases h0 : 0 ≤ c0 <;> by_cases h1 : 0 ≤ c1 <;> simp [h0, h1]
    rw [hfil] at haf
    have hall : ∀ c ∈ [c0, c1], c < (i : Int) := fun c hc => by
      simp only [List.mem_cons, List.not_mem_nil, or_false] at hc
      rcases hc with rfl | rfl
      · exact b1.2
      · exact b2.2
    have hin := drop_ind0 [c0, c1] (fun j rs => ∀ a : ClT, okCl (i : Int) a → foldV V a (rs.filter fun c => decide (0 ≤ c)) = af → Ev (fun k => spec_VectorOf_h10 k l V e a l (l.length : Int) (i : Int) [c0, c1] ([c0, c1].length : Int) (j : Int)) (runV l (i + 1) r (V ++ [nextV l V e i]), true)) ?_ ?_
    · have hc2 := l2Causes_ev l i e he (by omega)
      rw [hc0, hc1] at hc2
      refine ev_shift ?_
      simp only [spec_VectorOf_h5_eq, ev_ite_iff, ev_none_iff, rdT_get (e := EvK) he, ev_bind_iff hc2]
      rw [if_pos d1, if_pos d2, if_pos d1]
      exact hin zero6 (ok_zero (by omega)) haf
    · intro a _ ha
      have ha' : a = af := ha
      subst ha'
      have g1 : (0 : Int) ≤ (p : Int) := by omega
      have g2 : (p : Int) < (a.length : Int) := by omega
      refine ev_shift ?_
      simp only [spec_VectorOf_h10_eq, ev_ite_iff, ev_none_iff, ep, Int.toNat_natCast, hset, wrap_nat (show i < 9223372036854775807 by omega)]
      rw [if_neg (by omega), if_pos g1, if_pos g2, if_pos g1, if_pos g2, if_pos (by simp; omega)]
      exact ih
    · intro j c rs hj hc hd2 ihj a ha hfa
      have hclt := hall c (List.mem_of_getElem? hc)
      have e1 : (j : Int) < ([c0, c1].length : Int) := by omega
      have e2 : (0 : Int) ≤ (j : Int) := by omega
      have hjb : j < 9223372036854775807 := by simp at hj; omega
      refine ev_shift ?_
      by_cases hneg : 0 ≤ c
      · obtain ⟨q, rfl⟩ : ∃ q : Nat, c = (q : Int) := ⟨c.toNat, by omega⟩
        have hgq : V[q]? = some (V[q]'(by omega)) := List.getElem?_eq_getElem _
        have hvq := hV _ (List.mem_of_getElem? hgq)
        have hgd : V.getD (q : Int).toNat [] = V[q]'(by omega) := by simp [List.getD, hgq]
        rw [List.filter_cons, if_pos (by simp)] at hfa
        have hfa' : foldV V (mer a (V.getD (q : Int).toNat [])) (rs.filter fun c => decide (0 ≤ c)) = af := hfa
        rw [hgd] at hfa'
        have e4 : (q : Int) < (V.length : Int) := by omega
        simp only [spec_VectorOf_h10_eq, ev_ite_iff, ev_none_iff, rdT_get (e := .int .i64) hc, rdT_get (e := ClK) hgq, wrap_nat hjb, ev_bind_iff (merge_ev a (V[q]'(by omega)) ha.1 hvq.1)]
        rw [if_pos e1, if_pos e2, if_pos e1, if_pos hneg, if_pos hneg, if_pos e4]
        exact ihj _ (okCl_mer ha hvq) hfa'
      · rw [List.filter_cons, if_neg (by simpa using hneg)] at hfa
        simp only [spec_VectorOf_h10_eq, ev_ite_iff, ev_none_iff, rdT_get (e := .int .i64) hc, wrap_nat hjb]
        rw [if_pos e1, if_pos e2, if_pos e1, if_neg hneg]
        exact ihj _ ha hfa
end
/-! marks -/
def emCl (c : Int) : ClT := mkList (fun k => k) c 1 6
theorem markClockS_ev (R : List ClT) (hR : R.length ≤ 60) (h6 : ∀ v ∈ R, v.length = 6) : Ev (fun k => laws_markClockS k R 1) (mkList emCl 1 6 R.length, 1 + 6 * (R.length : Int)) := by
  have hml := mkList_len emCl 1 6 R.length
  have key := up_ind R.length (fun n => Ev (fun k => laws_markClockS_h2 k ((mkList emCl 1 6 R.length).take n ++ R.drop n) (1 + 6 * (n : Int)) (n : Int)) (mkList emCl 1 6 R.length, 1 + 6 * (R.length : Int))) ?_ ?_ 0 (by omega)
  · refine ev_congr (fun k => laws_markClockS_eq k R 1) ?_
    simpa using key
  · refine ev_last fun k => ?_
    rw [laws_markClockS_h2_eq, if_neg (by rw [List.length_append, List.length_take, List.length_drop]; omega), List.take_of_length_le (by omega), List.drop_eq_nil_of_le (by omega), List.append_nil]
  · intro n hn ih
    have hx : R[n]? = some R[n] := List.getElem?_eq_getElem hn
    have hx6 := h6 _ (List.getElem_mem hn)
    generalize R[n] = x at hx hx6
    have hm := mkList_get emCl 1 6 R.length n hn
    have hdr : R.drop n = x :: R.drop (n + 1) := by
      rw [List.drop_eq_getElem_cons hn]
      congr 1
      rw [List.getElem?_eq_getElem hn] at hx
      exact Option.some.inj hx
    have hget : ((mkList emCl 1 6 R.length).take n ++ R.drop n)[n]? = some x := by
      rw [List.getElem?_append_right (by rw [List.length_take]; omega), List.length_take, show n - min n (mkList emCl 1 6 R.length).length = 0 by omega, hdr]; rfl
    have hnext : (mkList emCl 1 6 R.length).take (n + 1) ++ R.drop (n + 1) = ((mkList emCl 1 6 R.length).take n ++ R.drop n).set n (emCl (1 + 6 * (n : Int))) := by
      rw [take_snoc hm, hdr, List.set_append_right _ _ (by rw [List.length_take]; omega), List.length_take, show n - min n (mkList emCl 1 6 R.length).length = 0 by omega, List.set_cons_zero, List.append_assoc]; rfl
    have d1 : (n : Int) < ((((mkList emCl 1 6 R.length).take n ++ R.drop n).length : Nat) : Int) := by rw [List.length_append, List.length_take, List.length_drop]; omega
    have d2 : (0 : Int) ≤ (n : Int) := by omega
    have mk := markIntS_ev x (1 + 6 * (n : Int)) (by omega) (by omega)
    rw [hx6] at mk
    have e6 : 1 + 6 * (n : Int) + 1 * ((6 : Nat) : Int) = 1 + 6 * ((n + 1 : Nat) : Int) := by omega
    rw [e6] at mk
    rw [hnext] at ih
    generalize (mkList emCl 1 6 R.length).take n ++ R.drop n = cur at hget ih d1
    refine ev_shift ?_
    simp only [laws_markClockS_h2_eq, ev_ite_iff, ev_none_iff, rdT_get (e := ClK) hget, ev_bind_iff mk, wrap_nat (show n < 9223372036854775807 by omega), Int.toNat_natCast]
    rw [if_pos d1, if_pos d2, if_pos d1]
    exact ih
theorem heldClockS_ev (N : Nat) (hN : N ≤ 60) : Ev (fun k => laws_heldClockS k (mkList emCl 1 6 N) 1) (1 + 6 * (N : Int)) := by
  refine ev_congr (fun k => laws_heldClockS_eq k _ 1) ?_
  have hl := mkList_len emCl 1 6 N
  refine held_loop (fun k c i => laws_heldClockS_h2 k (mkList emCl 1 6 N) c i) emCl 1 6 N (fun k c => ?_) (fun n r hn hx H => ?_)
  · rw [laws_heldClockS_h2_eq, if_neg (by omega)]
  · have d1 : (n : Int) < ((mkList emCl 1 6 N).length : Int) := by omega
    have d3 : (0 : Int) ≤ (n : Int) := by omega
    have hd := heldIntS_ev (1 + 6 * (n : Int)) 6 (by omega) (by omega)
    have e6 : 1 + 6 * (n : Int) + 1 * ((6 : Nat) : Int) = 1 + 6 * ((n + 1 : Nat) : Int) := by omega
    rw [e6] at hd
    refine ev_shift ?_
    simp only [laws_heldClockS_h2_eq, ev_ite_iff, ev_some_iff, ev_none_iff, wrap_nat (show n < 9223372036854775807 by omega), rdT_get (e := ClK) hx, ev_bind_iff (show Ev (fun k => laws_heldIntS k (emCl (1 + 6 * (n : Int))) (1 + 6 * (n : Int))) _ from hd)]
    rw [if_pos d1, if_pos d3, if_pos d1, if_neg (by omega)]
    exact H
def emEv (m : Int) : EvT := (m, m + 1, m + 2)
theorem upEv {xs : List EvT} {n : Nat} {x : EvT} (hx : xs[n]? = some x) (v0 v1 v2 : Int) :
    upAt EvK [2] (.int .i64) v2 (upAt EvK [1] (.int .i64) v1 (upAt EvK [0] (.int .i64) v0 xs (n : Int)) (n : Int)) (n : Int) = xs.set n (v0, v1, v2) := by
  have hn : n < xs.length := (List.getElem?_eq_some_iff.1 hx).1
  rw [upAt_get (e := EvK) (k := .int .i64) (w := (v0, x.2)) hx rfl, upAt_set (e := EvK) (k := .int .i64) (w := (v0, v1, x.2.2)) hn rfl, upAt_set (e := EvK) (k := .int .i64) (w := (v0, v1, v2)) hn rfl]
theorem upLenEv (p : List Nat) (k : Kind) (y : k.T) (l : List EvT) (i : Int) : @List.length EvT (upAt EvK p k y l i) = @List.length EvT l := upAt_len (e := EvK)
theorem markEventS_ev (l : List EvT) (m : Int) (h0 : 0 ≤ m) (hm : m + 3 * l.length ≤ 1073741824) : Ev (fun k => laws_markEventS k l m) (mkList emEv m 3 l.length, m + 3 * (l.length : Int)) := by
  refine ev_congr (fun k => laws_markEventS_eq k l m) ?_
  refine mark_loop (fun k l c i => laws_markEventS_h2 k l c i) emEv m 3 l.length (fun k xs c hx => ?_) (fun n xs r hn hx H => ?_) l rfl
  · rw [laws_markEventS_h2_eq, if_neg (by omega)]
  · have e1 : wrap64 (m + 3 * (n : Int) + 1) = m + 3 * (n : Int) + 1 := wrap_of (by omega) (by omega)
    have e2 : wrap64 (m + 3 * (n : Int) + 1 + 1) = m + 3 * (n : Int) + 2 := by rw [wrap_of (by omega) (by omega)]; omega
    have e3 : wrap64 (m + 3 * (n : Int) + 2 + 1) = m + 3 * ((n + 1 : Nat) : Int) := by rw [wrap_of (by omega) (by omega)]; omega
    have hnx : n < xs.length := by omega
    have hg : xs[n]? = some xs[n] := List.getElem?_eq_getElem hnx
    generalize xs[n] = x at hg
    have d2 : (n : Int) < (xs.length : Int) := by omega
    have d3 : (0 : Int) ≤ (n : Int) := by omega
    refine ev_shift ?_
    simp only [laws_markEventS_h2_eq, ev_ite_iff, e1, e2, e3, wrap_nat (show n < 9223372036854775807 by omega), upLenEv, if_pos d2, if_pos d3, upEv hg]
    exact H
theorem toEvent_ev (x : EvT) : Ev (fun k => laws_toEvent k x) x := ev_congr (fun k => laws_toEvent_eq k x) (ev_some x)
theorem eqEvent_ev (x : EvT) : Ev (fun k => laws_eqEvent k x x) true := ev_congr (fun k => laws_eqEvent_eq k x x) (ev_if_neg (by simp) (ev_if_neg (by simp) (ev_if_neg (by simp) (ev_some _))))
theorem eqClockS_ev (R : List ClT) (hR : R.length ≤ 60) (h6 : ∀ v ∈ R, v.length = 6) : Ev (fun k => laws_eqClockS k R R) true := by
  refine ev_congr (fun k => laws_eqClockS_eq k R R) ?_
  simp only [ev_ite_iff]
  rw [if_neg (by simp)]
  exact eq_row (e := ClK) (l := R) (fun k a b i => laws_eqClockS_h4_eq k a b i) (fun x hx => ev_congr (fun k => laws_eqClock_eq k x x) (ev_bind (eqIntS_ev x (by have := h6 x hx; omega)) (ev_if_neg (by simp) (ev_some _)))) (by omega)
theorem vec_ev (l : List EvT) (hl : l.length ≤ 1048576) : ∃ r : List ClT × Bool, Ev (fun k => spec_VectorOf k l) r ∧ Ev (fun k => impl_VectorOf k l) r ∧ r.1.length ≤ 60 ∧ ∀ v ∈ r.1, v.length = 6 := by
  have s1 := specEvents_ev l hl
  have i1 := areEvents_ev l hl
  cases hg : events l with
  | false =>
    rw [hg] at s1 i1
    exact ⟨([], false), ev_congr (fun k => spec_VectorOf_eq k l) (ev_bind s1 (ev_if_pos (by simp) (ev_some _))), ev_congr (fun k => impl_VectorOf_eq k l) (ev_bind i1 (ev_if_pos (by simp) (ev_some _))), by simp, by simp⟩
  | true =>
    rw [hg] at s1 i1
    have hl60 : l.length ≤ 60 := by
      simp only [events, Bool.and_eq_true, decide_eq_true_eq] at hg; exact hg.2
    have ok := runV_ok hg l 0 [] rfl rfl (by simp)
    refine ⟨(runV l 0 l [], true), ev_congr (fun k => spec_VectorOf_eq k l) (ev_bind s1 (ev_if_neg (by simp) (specRun_ev l 0 [] rfl rfl (by simp) hl60 hg))), ev_congr (fun k => impl_VectorOf_eq k l) (ev_bind i1 (ev_if_neg (by simp) (ev_bind (ev_congr (fun k => impl_vectors_eq k l) (implRun_ev l 0 [] rfl rfl (by simp) hl60 hg)) (ev_some _)))), by rw [ok.1]; omega, fun v hv => (ok.2 v hv).1⟩
theorem toEventS_ev (l) (hl : l.length ≤ 1048576) : Ev (fun k => laws_toEventS k l) l := by
  refine ev_congr (fun k => laws_toEventS_eq k l) ?_
  simp only [ev_ite_iff]
  rw [if_pos trivial, if_pos (by omega)]
  simpa using to_row (l := l) (cv := id) (z := _) (fun k l r i => laws_toEventS_h3_eq k l r i) (fun x _ => toEvent_ev x) (by omega)
theorem eqEventS_ev (l) (hl : l.length ≤ 140737488355328) : Ev (fun k => laws_eqEventS k l l) true := by
  refine ev_congr (fun k => laws_eqEventS_eq k l l) ?_
  simp only [ev_ite_iff]
  rw [if_neg (by simp)]
  exact eq_row (l := l) (fun k a b i => laws_eqEventS_h4_eq k a b i) (fun x _ => eqEvent_ev x) (by omega)
theorem law (a0 : List EvT) (h0 : okT (.slice EvK) a0) : ∃ k, laws_FnExactVectorOf k a0 = some true := by
  apply ev_fuel
  refine ev_congr (fun k => laws_FnExactVectorOf_eq k a0) ?_
  have hl0 : a0.length ≤ 140737488355328 := Nat.le_trans h0.1 (by omega)
  have w : wrap64 (1048576 - (a0.length : Int)) = 1048576 - a0.length := wrap_of (by omega) (by omega)
  by_cases hneg : 1048576 - (a0.length : Int) < 0
  · refine ev_bind (ev_congr (fun k => laws_szEventS_eq k a0 _) ?_) (ev_if_pos (show (-1 : Int) < 0 by omega) (ev_some _))
    rw [w]
    exact ev_if_pos hneg (ev_some _)
  refine ev_bind (a := 1048576 - (a0.length : Int)) (ev_congr (fun k => laws_szEventS_eq k a0 _) ?_) (ev_if_neg hneg ?_)
  · rw [w]
    exact ev_if_neg hneg (ev_some _)
  have hl : a0.length ≤ 1048576 := by omega
  have to := toEventS_ev a0 hl
  obtain ⟨r, spec, impl, hlen, h6⟩ := vec_ev a0 hl
  have eqr := eqClockS_ev r.1 hlen h6
  have mk := markClockS_ev r.1 hlen h6
  have hd := heldClockS_ev r.1.length hlen
  have m0 := markEventS_ev a0 1 (by omega) (by omega)
  refine ev_bind to (ev_bind spec (ev_bind to (ev_bind impl (ev_bind eqr (ev_if_neg (by simp) (ev_if_neg (by simp) ?_))))))
  refine ev_bind to (ev_bind (eqEventS_ev a0 (by omega)) (ev_if_neg (by simp) ?_))
  refine ev_bind m0 (ev_if_neg (by simp only; omega) (ev_bind eqr (ev_if_neg (by simp) (ev_if_neg (by simp) ?_))))
  refine ev_bind mk (ev_bind hd (ev_if_neg (by omega) (ev_if_neg (by simp) ?_)))
  refine ev_bind to (ev_bind impl (ev_bind eqr (ev_if_neg (by simp) (ev_if_neg (by simp) ?_))))
  exact ev_bind hd (ev_if_neg (by omega) (ev_if_neg (by simp) (ev_some _)))

end Go.Proofs.Ytmfcblbpicbhoaa.Fms
