/- What the law's functions give: the pure part. -/
import Derived.Test.YtmfcblbpicbhoaaFmAid
import Derived.Test.YtmfcblbpicbhoaaFmOpn
import Derived.Test.YtmfcblbpicbhoaaFmXFnExactGoodCutEq
set_option autoImplicit true
set_option maxRecDepth 100000
set_option linter.unusedVariables false
set_option linter.unusedSimpArgs false
set_option linter.unnecessarySimpa false
set_option linter.unusedSectionVars false
open Go Go.Fm Go.RowKit
namespace Go.Proofs.Ytmfcblbpicbhoaa.Fms
/-! ### base -/
theorem l1In_ev (n lo hi : Int) : Ev (fun k => spec_l1In k n lo hi) (decide (lo ≤ n ∧ n ≤ hi)) := ev_congr (fun k => by rw [spec_l1In_eq]) (by by_cases h : lo ≤ n <;> simp [ev_some_iff, h])

/-! ### inn -/
theorem in_ev (n lo hi : Int) : Ev (fun k => impl_in k n lo hi) (decide (lo ≤ n ∧ n ≤ hi)) := ev_congr (fun k => by rw [impl_in_eq]) (by by_cases h : lo ≤ n <;> simp [ev_some_iff, h])

/-! ### int -/
theorem toIntS_ev (l) (hl : l.length ≤ 1048576) : Ev (fun k => laws_toIntS k l) l := by
  refine ev_congr (fun k => laws_toIntS_eq k l) ?_
  simp only [ev_ite_iff]
  rw [if_pos trivial, if_pos (by omega)]
  simpa using to_row0 (e := .int .i64) (l := l) (z := _) (fun k l r i => laws_toIntS_h3_eq k l r i) (by omega)
theorem eqIntS_ev (l) (hl : l.length ≤ 140737488355328) : Ev (fun k => laws_eqIntS k l l) true := by
  refine ev_congr (fun k => laws_eqIntS_eq k l l) ?_
  simp only [ev_ite_iff]
  rw [if_neg (by simp)]
  exact eq_row0 (e := .int .i64) (l := l) (c := fun x y => x = y) (fun k a b i => laws_eqIntS_h4_eq k a b i) (fun x => rfl) (by omega)

/-! ### events -/
abbrev EvK : Kind := .struct (.pair (.int .i64) (.pair (.int .i64) (.int .i64)))
abbrev EvT := Int × Int × Int
theorem mgetT_put : ∀ (m : List (Int × Bool)) (n x : Int), mgetT (.int .i64) .bool (mputT (.int .i64) .bool m n true) x = (decide (x = n) || mgetT (.int .i64) .bool m x)
  | [], n, x => by
    by_cases h : x = n <;> simp [mgetT, mputT, mfind, eqT, h, zeroT]
  | p :: m, n, x => by
    have ih := mgetT_put m n x
    simp only [mgetT, mputT, mfind, eqT] at ih ⊢
    by_cases h1 : n = p.1 <;> by_cases h2 : x = p.1 <;> by_cases h3 : x = n <;> simp_all [mfind, eqT]
def sentB (p : List EvT) (x : Int) : Bool := p.any fun o => decide (o.1 = 2) && decide (o.2.2 = x)
def takenB (p : List EvT) (x : Int) : Bool := p.any fun o => decide (o.1 = 3) && decide (o.2.2 = x)
def sameB (p : List EvT) (k x : Int) : Bool := p.any fun o => decide (o.1 = k) && decide (o.2.2 = x)
def inI (x a b : Int) : Bool := decide (a ≤ x ∧ x ≤ b)
/-- Is an event good behind these? -/
def evOk (p : List EvT) (e : EvT) : Bool := inI e.1 1 3 && inI e.2.1 0 5 && (if e.1 = 1 then decide (e.2.2 = 0) else !sameB p e.1 e.2.2 && inI e.2.2 1 1000 && (!decide (e.1 = 3) || sentB p e.2.2))
def goodFrom (p : List EvT) : List EvT → Bool
  | [] => true
  | e :: r => evOk p e && goodFrom (p ++ [e]) r
def events (l : List EvT) : Bool := goodFrom [] l && decide (l.length ≤ 60)
theorem dec_len (n : Nat) : decide ((n : Int) ≤ 60) = decide (n ≤ 60) := by by_cases h : n ≤ 60 <;> simp [h] <;> omega
theorem no13 (x : Int) (h1 : ¬ x = 1) (h2 : ¬ x = 2) (h3 : ¬ x = 3) : ¬ (1 ≤ x ∧ x ≤ 3) := by omega
/-! ### the impl's look -/
theorem areEvents_ev (l : List EvT) (hl : l.length ≤ 1048576) : Ev (fun k => impl_areEvents k l) (events l) := by
  have key := drop_ind0 l (fun n rest => (∀ o ∈ l.take n, o.1 = 2 → 1 ≤ o.2.2 ∧ o.2.2 ≤ 1000) → ∀ s t : List (Int × Bool), (∀ x, mgetT (.int .i64) .bool s x = sentB (l.take n) x) → (∀ x, mgetT (.int .i64) .bool t x = takenB (l.take n) x) →
      Ev (fun k => impl_areEvents_h3 k l s t l (l.length : Int) (n : Int)) (goodFrom (l.take n) rest && decide (l.length ≤ 60))) ?_ ?_
  · exact ev_congr (fun k => impl_areEvents_eq k l) (key (by simp) [] [] (by intro x; simp [mgetT, mfind, sentB, zeroT]) (by intro x; simp [mgetT, mfind, takenB, zeroT]))
  · intro _ s t _ _
    refine ev_last (fun k => ?_)
    rw [impl_areEvents_h3_eq, if_neg (by omega)]
    simp [goodFrom, dec_len]
  · intro n e rest hn he _ ih hp s t hs ht
    have hts := take_snoc he
    refine ev_shift ?_
    simp only [impl_areEvents_h3_eq, rdT_get (e := EvK) he, ev_bind_iff (in_ev _ _ _), hs, ht, wrap_nat (show n < 9223372036854775807 by omega), ev_ite_iff, ev_some_iff, ev_none_iff]
    have q0 : (0 : Int) ≤ (n : Int) := by omega
    have q1 : (n : Int) < (l.length : Int) := by omega
    rw [if_pos q1, if_pos q0]
    try rw [if_pos q1]
    have hno : goodFrom (l.take n) (e :: rest) = (evOk (l.take n) e && goodFrom (l.take n ++ [e]) rest) := rfl
    rw [hts] at ih
    by_cases h1 : e.1 = 1
    · rw [if_pos h1]
      have hi := ih (fun o ho h2 => by
        rcases List.mem_append.1 ho with h | h
        · exact hp o h h2
        · simp at h; subst h; exact absurd (h1.symm.trans h2) (by decide)) s t (fun x => by rw [hs x]; simp [sentB, h1]) (fun x => by rw [ht x]; simp [takenB, h1])
      by_cases hpr : 0 ≤ e.2.1 ∧ e.2.1 ≤ 5
      · by_cases hm : e.2.2 = 0
        · have : evOk (l.take n) e = true := by simp [evOk, inI, h1, hpr, hm]
          rw [hno, this, Bool.true_and]
          simpa [hpr, hm] using hi
        · have : evOk (l.take n) e = false := by simp [evOk, h1, hm]
          rw [hno, this, Bool.false_and, Bool.false_and]
          simp [hpr, hm]
      · have : evOk (l.take n) e = false := by simp [evOk, inI, hpr]
        rw [hno, this, Bool.false_and, Bool.false_and]
        simp [hpr]
    · rw [if_neg h1]
      by_cases h2 : e.1 = 2
      · rw [if_pos h2]
        by_cases hpr : 0 ≤ e.2.1 ∧ e.2.1 ≤ 5
        · by_cases hr : 1 ≤ e.2.2 ∧ e.2.2 ≤ 1000
          · cases hsb : sentB (l.take n) e.2.2 with
            | true =>
              have : evOk (l.take n) e = false := by
                have : sameB (l.take n) 2 e.2.2 = true := hsb
                simp [evOk, h2, this]
              rw [hno, this, Bool.false_and, Bool.false_and]
              simp [hpr, hr]
            | false =>
              have : evOk (l.take n) e = true := by
                have : sameB (l.take n) 2 e.2.2 = false := hsb
                simp [evOk, inI, h2, this, hpr, hr]
              rw [hno, this, Bool.true_and]
              have hi := ih (fun o ho h3 => ?_) (mputT (.int .i64) .bool s e.2.2 true) t (fun x => ?_) (fun x => ?_)
              · simpa [hpr, hr] using hi
              · rcases List.mem_append.1 ho with h | h
                · exact hp o h h3
                · simp at h; subst h; exact hr
              · rw [mgetT_put, hs x]
                by_cases hx : x = e.2.2
                · subst hx; simp [sentB, h2]
                · have hx' : ¬ e.2.2 = x := fun h => hx h.symm
                  simp [sentB, h2, hx, hx']
              · rw [ht x]; simp [takenB, h2]
          · have : evOk (l.take n) e = false := by simp [evOk, inI, h2, hr]
            rw [hno, this, Bool.false_and, Bool.false_and]
            simp [hpr, hr]
        · have : evOk (l.take n) e = false := by simp [evOk, inI, hpr]
          rw [hno, this, Bool.false_and, Bool.false_and]
          simp [hpr]
      · rw [if_neg h2]
        by_cases h3 : e.1 = 3
        · rw [if_pos h3]
          by_cases hpr : 0 ≤ e.2.1 ∧ e.2.1 ≤ 5
          · cases hsb : sentB (l.take n) e.2.2 with
            | false =>
              have : evOk (l.take n) e = false := by simp [evOk, h3, hsb]
              rw [hno, this, Bool.false_and, Bool.false_and]
              simp [hpr]
            | true =>
              have hr : 1 ≤ e.2.2 ∧ e.2.2 ≤ 1000 := by
                unfold sentB at hsb
                simp only [List.any_eq_true, Bool.and_eq_true, decide_eq_true_eq] at hsb
                obtain ⟨o, ho, q1, q2⟩ := hsb
                rw [← q2]; exact hp o ho q1
              cases htb : takenB (l.take n) e.2.2 with
              | true =>
                have : evOk (l.take n) e = false := by
                  have : sameB (l.take n) 3 e.2.2 = true := htb
                  simp [evOk, h3, this]
                rw [hno, this, Bool.false_and, Bool.false_and]
                simp [hpr]
              | false =>
                have : evOk (l.take n) e = true := by
                  have : sameB (l.take n) 3 e.2.2 = false := htb
                  simp [evOk, inI, h3, this, hpr, hr, hsb]
                rw [hno, this, Bool.true_and]
                have hi := ih (fun o ho h4 => ?_) s (mputT (.int .i64) .bool t e.2.2 true) (fun x => ?_) (fun x => ?_)
                · simpa [hpr, hr] using hi
                · rcases List.mem_append.1 ho with h | h
                  · exact hp o h h4
                  · simp at h; subst h; exact absurd (h3.symm.trans h4) (by decide)
                · rw [hs x]; simp [sentB, h3]
                · rw [mgetT_put, ht x]
                  by_cases hx : x = e.2.2
                  · subst hx; simp [takenB, h3]
                  · have hx' : ¬ e.2.2 = x := fun h => hx h.symm
                    simp [takenB, h3, hx, hx']
          · have : evOk (l.take n) e = false := by simp [evOk, inI, hpr]
            rw [hno, this, Bool.false_and, Bool.false_and]
            simp [hpr]
        · have : evOk (l.take n) e = false := by
            have : ¬ (1 ≤ e.1 ∧ e.1 ≤ 3) := no13 e.1 h1 h2 h3
            simp [evOk, inI, this]
          rw [hno, this, Bool.false_and, Bool.false_and]
          simp [h3]
/-! ### the spec's look -/
theorem spec_inner (l : List EvT) (n : Nat) (hn : n < l.length) (hl : l.length ≤ 1048576) (e : EvT) (r : Bool) (H : Ev (fun k => spec_GoodEvents_h2 k l l (l.length : Int) ((n + 1 : Nat) : Int)) r) :
    Ev (fun k => spec_GoodEvents_h11 k l e false l (l.length : Int) (n : Int) (l.take n) ((l.take n).length : Int) 0) (!sameB (l.take n) e.1 e.2.2 && inI e.2.2 1 1000 && (!decide (e.1 = 3) || sentB (l.take n) e.2.2) && r) := by
  have hlen : (l.take n).length = n := by simp; omega
  generalize hp : l.take n = p at hlen ⊢
  have key := drop_ind0 p (fun j rest => ∀ s, Ev (fun k => spec_GoodEvents_h11 k l e s l (l.length : Int) (n : Int) p (p.length : Int) (j : Int)) (!sameB rest e.1 e.2.2 && inI e.2.2 1 1000 && (!decide (e.1 = 3) || (s || sentB rest e.2.2)) && r)) ?_ ?_
  · simpa using key false
  · intro s
    refine ev_shift ?_
    simp only [spec_GoodEvents_h11_eq, ev_bind_iff (l1In_ev _ _ _), wrap_nat (show n < 9223372036854775807 by omega), ev_ite_iff, ev_some_iff]
    rw [if_neg (by omega)]
    have h0 : sameB [] e.1 e.2.2 = false := rfl
    have h1 : sentB [] e.2.2 = false := rfl
    rw [h0, h1, Bool.not_false, Bool.true_and, Bool.or_false]
    unfold inI
    by_cases hi : 1 ≤ e.2.2 ∧ e.2.2 ≤ 1000
    · by_cases h3 : e.1 = 3
      · cases s with
        | true => simpa [hi, h3] using H
        | false => simp [hi, h3]
      · simpa [hi, h3] using H
    · simp [hi]
  · intro j o rest hj ho _ ih s
    refine ev_shift ?_
    simp only [spec_GoodEvents_h11_eq, rdT_get (e := EvK) ho, wrap_nat (show j < 9223372036854775807 by omega), ev_ite_iff, ev_some_iff, ev_none_iff]
    rw [if_pos (by omega), if_pos (by omega), if_pos (by omega)]
    by_cases hm : o.2.2 = e.2.2
    · by_cases hk : o.1 = e.1
      · have : sameB (o :: rest) e.1 e.2.2 = true := by simp [sameB, hm, hk]
        rw [this]
        simp [hm, hk]
      · have h1 : sameB (o :: rest) e.1 e.2.2 = sameB rest e.1 e.2.2 := by simp [sameB, hk]
        have h2 : sentB (o :: rest) e.2.2 = (decide (o.1 = 2) || sentB rest e.2.2) := by simp [sentB, hm]
        rw [h1, h2]
        cases s with
        | true => simpa [hm, hk] using ih true
        | false => simpa [hm, hk] using ih (decide (o.1 = 2))
    · have h1 : sameB (o :: rest) e.1 e.2.2 = sameB rest e.1 e.2.2 := by simp [sameB, hm]
      have h2 : sentB (o :: rest) e.2.2 = sentB rest e.2.2 := by simp [sentB, hm]
      rw [h1, h2]
      cases s with
      | true => simpa [hm] using ih true
      | false => simpa [hm] using ih false
theorem specEvents_ev (l : List EvT) (hl : l.length ≤ 1048576) : Ev (fun k => spec_GoodEvents k l) (events l) := by
  have key := drop_ind0 l (fun n rest => Ev (fun k => spec_GoodEvents_h2 k l l (l.length : Int) (n : Int)) (goodFrom (l.take n) rest && decide (l.length ≤ 60))) ?_ ?_
  · exact ev_congr (fun k => spec_GoodEvents_eq k l) key
  · refine ev_last (fun k => ?_)
    rw [spec_GoodEvents_h2_eq, if_neg (by omega)]
    simp [goodFrom, dec_len]
  · intro n e rest hn he _ ih
    have hno : goodFrom (l.take n) (e :: rest) = (evOk (l.take n) e && goodFrom (l.take n ++ [e]) rest) := rfl
    rw [take_snoc he] at ih
    have hsl : (List.drop (Int.toNat 0) (List.take (Int.toNat (n : Int)) l)) = l.take n := by simp
    refine ev_shift ?_
    simp only [spec_GoodEvents_h2_eq, rdT_get (e := EvK) he, hsl, ev_bind_iff (l1In_ev _ _ _), wrap_nat (show n < 9223372036854775807 by omega), ev_ite_iff, ev_some_iff, ev_none_iff]
    have q0 : (0 : Int) ≤ (n : Int) := by omega
    have q1 : (n : Int) < (l.length : Int) := by omega
    rw [if_pos q1, if_pos q0]
    try rw [if_pos q1]
    by_cases hk : 1 ≤ e.1 ∧ e.1 ≤ 3
    · by_cases hpr : 0 ≤ e.2.1 ∧ e.2.1 ≤ 5
      · by_cases h1 : e.1 = 1
        · by_cases hm : e.2.2 = 0
          · have : evOk (l.take n) e = true := by simp [evOk, inI, h1, hpr, hm]
            rw [hno, this, Bool.true_and]
            simpa [h1, hpr, hm] using ih
          · have : evOk (l.take n) e = false := by simp [evOk, h1, hm]
            rw [hno, this, Bool.false_and, Bool.false_and]
            simp [h1, hpr, hm]
        · have := spec_inner l n hn hl e _ ih
          have e1 : evOk (l.take n) e = (!sameB (l.take n) e.1 e.2.2 && inI e.2.2 1 1000 && (!decide (e.1 = 3) || sentB (l.take n) e.2.2)) := by
            have a1 : inI e.1 1 3 = true := decide_eq_true hk
            have a2 : inI e.2.1 0 5 = true := decide_eq_true hpr
            simp only [evOk, a1, a2, if_neg h1, Bool.true_and]
          rw [hno, e1, Bool.and_assoc, if_neg (by simp [hk]), if_neg (by simp [hpr]), if_neg h1, if_pos (by omega), if_pos (by omega)]
          simpa only [Bool.and_assoc] using this
      · have : evOk (l.take n) e = false := by simp [evOk, inI, hpr]
        rw [hno, this, Bool.false_and, Bool.false_and]
        simp [hk, hpr]
    · have : evOk (l.take n) e = false := by simp [evOk, inI, hk]
      rw [hno, this, Bool.false_and, Bool.false_and]
      simp [hk]

/-! ### causes -/
/-! ### what an event depends on -/
def procP (e o : EvT) : Bool := decide (o.2.1 = e.2.1)
def sendP (e o : EvT) : Bool := decide (e.1 = 3) && decide (o.1 = 2) && decide (o.2.2 = e.2.2)
/-- The last place below n that fits, or -1. -/
def lastP (l : List EvT) (p : EvT → Bool) : Nat → Int
  | 0 => -1
  | n + 1 => if (l[n]?.any p) = true then (n : Int) else lastP l p n
/-- The places below n that fit. -/
def idxP (l : List EvT) (p : EvT → Bool) : Nat → List Int
  | 0 => []
  | n + 1 => if (l[n]?.any p) = true then idxP l p n ++ [(n : Int)] else idxP l p n
theorem lastP_lt (l : List EvT) (p : EvT → Bool) : ∀ n, -1 ≤ lastP l p n ∧ lastP l p n < n
  | 0 => by simp [lastP]
  | n + 1 => by
    have := lastP_lt l p n
    unfold lastP
    split <;> omega
theorem idxP_len (l : List EvT) (p : EvT → Bool) : ∀ n, (idxP l p n).length ≤ n
  | 0 => by simp [idxP]
  | n + 1 => by
    have := idxP_len l p n
    unfold idxP
    split
    · simp; omega
    · omega
theorem lastP_yes {l : List EvT} {p : EvT → Bool} {n : Nat} {o : EvT} (h : l[n]? = some o) (hp : p o = true) : lastP l p (n + 1) = n := by simp [lastP, h, hp]
theorem lastP_no {l : List EvT} {p : EvT → Bool} {n : Nat} {o : EvT} (h : l[n]? = some o) (hp : p o = false) : lastP l p (n + 1) = lastP l p n := by simp [lastP, h, hp]
theorem idxP_yes {l : List EvT} {p : EvT → Bool} {n : Nat} {o : EvT} (h : l[n]? = some o) (hp : p o = true) : idxP l p (n + 1) = idxP l p n ++ [(n : Int)] := by simp [idxP, h, hp]
theorem idxP_no {l : List EvT} {p : EvT → Bool} {n : Nat} {o : EvT} (h : l[n]? = some o) (hp : p o = false) : idxP l p (n + 1) = idxP l p n := by simp [idxP, h, hp]
theorem l2Causes_ev (l : List EvT) (i : Nat) (e : EvT) (he : l[i]? = some e) (hl : l.length ≤ 1048576) : Ev (fun k => spec_l2Causes k l (i : Int)) (lastP l (procP e) i, lastP l (sendP e) i) := by
  have hi : i < l.length := (List.getElem?_eq_some_iff.1 he).1
  have hlen : (l.take i).length = i := by simp; omega
  have key := up_ind i (fun n => Ev (fun k => spec_l2Causes_h4 k l (i : Int) (lastP l (procP e) n) (lastP l (sendP e) n) (l.take i) (i : Int) (n : Int)) (lastP l (procP e) i, lastP l (sendP e) i)) ?_ ?_ 0 (by omega)
  · refine ev_congr (fun k => spec_l2Causes_eq k l _) ?_
    have hsl : (List.drop (Int.toNat 0) (List.take (Int.toNat (i : Int)) l)) = l.take i := by simp
    rw [hsl, hlen]
    exact ev_if_pos (by omega) (ev_if_pos (by omega) key)
  · refine ev_last (fun k => ?_)
    rw [spec_l2Causes_h4_eq, if_neg (by omega)]
  · intro n hn ih
    have hx : l[n]? = some l[n] := List.getElem?_eq_getElem (by omega)
    have hx' : (l.take i)[n]? = some l[n] := by rw [List.getElem?_take_of_lt hn]; exact hx
    generalize l[n] = o at hx hx'
    have low : ∀ own : Int, own = lastP l (procP e) (n + 1) → Ev (fun k => spec_l2Causes_h8 k l (i : Int) own (lastP l (sendP e) n) (n : Int) o (l.take i) (i : Int) (n : Int)) (lastP l (procP e) i, lastP l (sendP e) i) := by
      intro own ho
      subst ho
      refine ev_shift ?_
      simp only [spec_l2Causes_h8_eq, rdT_get (e := EvK) he, wrap_nat (show n < 9223372036854775807 by omega), ev_ite_iff, ev_none_iff]
      have q0 : (0 : Int) ≤ (i : Int) := by omega
      have q1 : (i : Int) < (l.length : Int) := by omega
      simp only [if_pos q0, if_pos q1]
      by_cases h2 : e.1 = 3 ∧ o.1 = 2 ∧ o.2.2 = e.2.2
      · have q2 : sendP e o = true := by simp [sendP, h2]
        rw [lastP_yes hx q2] at ih
        simpa [h2] using ih
      · have q2 : sendP e o = false := by
          simp only [sendP, Bool.and_eq_false_iff, decide_eq_false_iff_not]
          by_cases a : e.1 = 3 <;> by_cases b : o.1 = 2 <;> by_cases c : o.2.2 = e.2.2 <;> simp_all
        rw [lastP_no hx q2] at ih
        by_cases a : e.1 = 3 <;> by_cases b : o.1 = 2 <;> by_cases c : o.2.2 = e.2.2 <;> simp_all
    refine ev_shift ?_
    simp only [spec_l2Causes_h4_eq, rdT_get (e := EvK) he, rdT_get (e := EvK) hx', hlen, ev_ite_iff, ev_none_iff]
    have q0 : (0 : Int) ≤ (n : Int) := by omega
    have q1 : (n : Int) < (i : Int) := by omega
    have q2 : (0 : Int) ≤ (i : Int) := by omega
    have q3 : (i : Int) < (l.length : Int) := by omega
    simp only [if_pos q0, if_pos q1, if_pos q2, if_pos q3]
    by_cases h1 : o.2.1 = e.2.1
    · rw [if_pos h1]
      exact low _ (lastP_yes hx (by simp [procP, h1])).symm
    · rw [if_neg h1]
      exact low _ (lastP_no hx (by simp [procP, h1])).symm
def ownP (l : List EvT) (e : EvT) (i : Nat) : List Int := if lastP l (procP e) i ≥ 0 then [lastP l (procP e) i] else []
def causesP (l : List EvT) (e : EvT) (i : Nat) : List Int := ownP l e i ++ idxP l (sendP e) i
theorem causes_ev (l : List EvT) (i : Nat) (e : EvT) (he : l[i]? = some e) (hl : l.length ≤ 1048576) : Ev (fun k => impl_causes k l (i : Int)) (causesP l e i) := by
  have hi : i < l.length := (List.getElem?_eq_some_iff.1 he).1
  have q2 : (0 : Int) ≤ (i : Int) := by omega
  have q3 : (i : Int) < (l.length : Int) := by omega
  have low : ∀ st : List Int, st.length ≤ 1 → Ev (fun k => impl_causes_h7 k l (i : Int) st) (st ++ idxP l (sendP e) i) := by
    intro st hst
    have key := up_ind i (fun n => Ev (fun k => impl_causes_h8 k l (i : Int) (st ++ idxP l (sendP e) n) (i : Int) (n : Int)) (st ++ idxP l (sendP e) i)) ?_ ?_ 0 (by omega)
    · refine ev_shift (ev_congr (fun k => impl_causes_h7_eq k l _ st) ?_)
      simpa [idxP] using key
    · refine ev_last (fun k => ?_)
      rw [impl_causes_h8_eq, if_neg (by omega)]
    · intro n hn ih
      have hx : l[n]? = some l[n] := List.getElem?_eq_getElem (by omega)
      generalize l[n] = o at hx
      have hlen := idxP_len l (sendP e) n
      have hap : (st ++ idxP l (sendP e) n).length + (List.cons (n : Int) []).length ≤ 17592186044416 := by simp only [List.length_append, List.length_cons, List.length_nil]; omega
      refine ev_shift ?_
      simp only [impl_causes_h8_eq, rdT_get (e := EvK) he, rdT_get (e := EvK) hx, wrap_nat (show n < 9223372036854775807 by omega), ev_ite_iff, ev_none_iff]
      have q0 : (0 : Int) ≤ (n : Int) := by omega
      have q1 : (n : Int) < (i : Int) := by omega
      have q4 : (n : Int) < (l.length : Int) := by omega
      simp only [if_pos q0, if_pos q1, if_pos q2, if_pos q3, if_pos q4, if_pos hap]
      by_cases h2 : e.1 = 3 ∧ o.1 = 2 ∧ o.2.2 = e.2.2
      · rw [idxP_yes hx (by simp [sendP, h2]), ← List.append_assoc] at ih
        simpa [h2] using ih
      · have q : sendP e o = false := by
          simp only [sendP, Bool.and_eq_false_iff, decide_eq_false_iff_not]
          by_cases a : e.1 = 3 <;> by_cases b : o.1 = 2 <;> by_cases c : o.2.2 = e.2.2 <;> simp_all
        rw [idxP_no hx q] at ih
        by_cases a : e.1 = 3 <;> by_cases b : o.1 = 2 <;> by_cases c : o.2.2 = e.2.2 <;> simp_all
  have up : ∀ j, j ≤ i → lastP l (procP e) i = lastP l (procP e) j → Ev (fun k => impl_causes_h3 k l (i : Int) [] ((j : Int) - 1)) (causesP l e i) := by
    intro j
    induction j with
    | zero =>
      intro _ h
      refine ev_shift ?_
      simp only [impl_causes_h3_eq, ev_ite_iff, ev_none_iff]
      rw [if_neg (by omega)]
      have : ownP l e i = [] := by simp [ownP, h, lastP]
      unfold causesP
      rw [this]
      exact low [] (by simp)
    | succ j ih =>
      intro hj h
      have hx : l[j]? = some l[j] := List.getElem?_eq_getElem (by omega)
      generalize l[j] = o at hx
      refine ev_shift ?_
      have e1 : ((j + 1 : Nat) : Int) - 1 = (j : Int) := by omega
      have hap : (([] : List Int).length + (List.cons (j : Int) []).length) ≤ 17592186044416 := by simp
      have w : wrap64 ((j : Int) - 1) = (j : Int) - 1 := wrap_of (by omega) (by omega)
      simp only [impl_causes_h3_eq, e1, rdT_get (e := EvK) he, rdT_get (e := EvK) hx, w, ev_ite_iff, ev_none_iff]
      have q0 : (0 : Int) ≤ (j : Int) := by omega
      have q4 : (j : Int) < (l.length : Int) := by omega
      simp only [if_pos q0, if_pos q2, if_pos q3, if_pos q4, if_pos hap]
      by_cases h1 : o.2.1 = e.2.1
      · rw [if_pos h1]
        rw [lastP_yes hx (by simp [procP, h1])] at h
        have : ownP l e i = [(j : Int)] := by simp [ownP, h]
        unfold causesP
        rw [this]
        exact low [(j : Int)] (by simp)
      · rw [if_neg h1]
        rw [lastP_no hx (by simp [procP, h1])] at h
        exact ih (by omega) h
  refine ev_congr (fun k => impl_causes_eq k l _) ?_
  rw [wrap_of (by omega) (by omega)]
  exact up i (Nat.le_refl _) rfl
/-- A message is sent once. -/
theorem good_snoc : ∀ (r p : List EvT), goodFrom p r = true → ∀ (n : Nat) (e : EvT), r[n]? = some e → evOk (p ++ r.take n) e = true
  | [], _, _, n, e, he => by simp at he
  | x :: r, p, h, n, e, he => by
    simp only [goodFrom, Bool.and_eq_true] at h
    cases n with
    | zero => simp at he; subst he; simpa using h.1
    | succ n =>
      have := good_snoc r (p ++ [x]) h.2 n e (by simpa using he)
      simpa using this
theorem good_at {l : List EvT} (h : events l = true) {n : Nat} {e : EvT} (he : l[n]? = some e) : evOk (l.take n) e = true := by
  have h' : goodFrom [] l = true := by
    have := h
    simp only [events, Bool.and_eq_true] at this
    exact this.1
  simpa using good_snoc l [] h' n e he
theorem send_once {l : List EvT} (h : events l = true) {j n : Nat} {a b : EvT} (hjn : j < n) (ha : l[j]? = some a) (hb : l[n]? = some b) (h2 : a.1 = 2) (h3 : b.1 = 2) : a.2.2 ≠ b.2.2 := by
  intro heq
  have := good_at h hb
  have ne1 : b.1 ≠ 1 := by rw [h3]; decide
  simp only [evOk, if_neg ne1, Bool.and_eq_true, Bool.not_eq_true'] at this
  have hs := this.2.1.1
  have : sameB (l.take n) b.1 b.2.2 = true := by
    simp only [sameB, List.any_eq_true]
    exact ⟨a, List.mem_of_getElem? (by rw [List.getElem?_take_of_lt hjn]; exact ha), by simp [h2, h3, heq]⟩
  rw [this] at hs
  cases hs
theorem idx_one {l : List EvT} (h : events l = true) (e : EvT) : ∀ n, idxP l (sendP e) n = if lastP l (sendP e) n ≥ 0 then [lastP l (sendP e) n] else []
  | 0 => by simp [idxP, lastP]
  | n + 1 => by
    have ih := idx_one h e n
    cases hx : l[n]? with
    | none => simp only [idxP, lastP, hx]; simpa using ih
    | some o =>
      cases hp : sendP e o with
      | false => rw [idxP_no hx hp, lastP_no hx hp]; exact ih
      | true =>
        rw [idxP_yes hx hp, lastP_yes hx hp]
        have : idxP l (sendP e) n = [] := by
          have none : ∀ m, m ≤ n → idxP l (sendP e) m = [] := by
            intro m
            induction m with
            | zero => intro _; rfl
            | succ m ih2 =>
              intro hm
              cases hy : l[m]? with
              | none => simp only [idxP, hy]; simpa using ih2 (by omega)
              | some q =>
                have : sendP e q = false := by
                  cases hq : sendP e q with
                  | false => rfl
                  | true =>
                    simp only [sendP, Bool.and_eq_true, decide_eq_true_eq] at hp hq
                    exact absurd (hq.2.trans hp.2.symm) (send_once h (by omega) hy hx hq.1.2 hp.1.2)
                rw [idxP_no hy this]
                exact ih2 (by omega)
          exact none n (Nat.le_refl _)
        rw [this]
        simp

/-! ### goodcut -/
def cnt (p : List EvT) (x : Int) : Nat := p.countP fun o => decide (o.2.1 = x)
theorem cnt_snoc (p : List EvT) (o : EvT) (x : Int) : cnt (p ++ [o]) x = cnt p x + (if o.2.1 = x then 1 else 0) := by
  unfold cnt
  rw [List.countP_append, List.countP_cons]
  by_cases h : o.2.1 = x <;> simp [h]
theorem cnt_cons (p : List EvT) (o : EvT) (x : Int) : cnt (o :: p) x = cnt p x + (if o.2.1 = x then 1 else 0) := by
  unfold cnt
  rw [List.countP_cons]
  by_cases h : o.2.1 = x <;> simp [h]
theorem cnt_le (p : List EvT) (x : Int) : cnt p x ≤ p.length := List.countP_le_length
theorem cnt_mono (l : List EvT) (x : Int) {j i : Nat} (h : j ≤ i) : cnt (l.take j) x ≤ cnt (l.take i) x := by
  have : l.take j = (l.take i).take j := by rw [List.take_take, Nat.min_eq_left h]
  rw [this]
  exact (List.take_sublist _ _).countP_le
theorem lastP_some (l : List EvT) (p : EvT → Bool) : ∀ n, 0 ≤ lastP l p n → ∃ (j : Nat) (o : EvT), lastP l p n = (j : Int) ∧ j < n ∧ l[j]? = some o ∧ p o = true
  | 0, h => by simp [lastP] at h
  | n + 1, h => by
    unfold lastP at h ⊢
    by_cases hx : (l[n]?.any p) = true
    · rw [if_pos hx]
      cases hl : l[n]? with
      | none => simp [hl] at hx
      | some o => exact ⟨n, o, rfl, by omega, hl, by simpa [hl] using hx⟩
    · rw [if_neg hx] at h ⊢
      obtain ⟨j, o, h1, h2, h3, h4⟩ := lastP_some l p n h
      exact ⟨j, o, h1, by omega, h3, h4⟩
theorem lastP_has (l : List EvT) (p : EvT → Bool) : ∀ n, ∀ (j : Nat) (o : EvT), j < n → l[j]? = some o → p o = true → 0 ≤ lastP l p n
  | 0, j, o, h, _, _ => by omega
  | n + 1, j, o, h, hl, hp => by
    unfold lastP
    by_cases hx : (l[n]?.any p) = true
    · rw [if_pos hx]; omega
    · rw [if_neg hx]
      by_cases e : j = n
      · subst e; simp [hl, hp] at hx
      · exact lastP_has l p n j o (by omega) hl hp
theorem place_ev (l : List EvT) (i : Nat) (e : EvT) (he : l[i]? = some e) (hl : l.length ≤ 1048576) : Ev (fun k => spec_l2Place k l (i : Int)) ((cnt (l.take i) e.2.1 : Int) + 1) := by
  have hi : i < l.length := (List.getElem?_eq_some_iff.1 he).1
  have hlen : (l.take (i + 1)).length = i + 1 := by simp; omega
  have hsl : (List.drop (Int.toNat 0) (List.take (Int.toNat ((i + 1 : Nat) : Int)) l)) = l.take (i + 1) := by simp
  have q2 : (0 : Int) ≤ (i : Int) := by omega
  have q3 : (i : Int) < (l.length : Int) := by omega
  refine ev_congr (fun k => spec_l2Place_eq k l _) ?_
  rw [wrap_nat (show i < 9223372036854775807 by omega), hsl, hlen]
  refine ev_if_pos (by omega) (ev_if_pos (by omega) ?_)
  have e1 : ((cnt (l.take i) e.2.1 : Int) + 1) = ((cnt (l.take (i + 1)) e.2.1 : Nat) : Int) := by rw [take_snoc he, cnt_snoc]; simp
  rw [e1]
  have key := drop_ind0 (l.take (i + 1)) (fun n rest => ∀ c : Nat, c ≤ n → Ev (fun k => spec_l2Place_h3 k l (i : Int) (c : Int) (l.take (i + 1)) ((i + 1 : Nat) : Int) (n : Int)) ((c + cnt rest e.2.1 : Nat) : Int)) ?_ ?_
  · have := key 0 (by omega)
    rw [Nat.zero_add] at this
    exact this
  · intro c hc
    refine ev_last fun k => ?_
    rw [spec_l2Place_h3_eq, if_neg (by omega)]
    rfl
  · intro n o rest hn ho _ ih c hc
    refine ev_shift ?_
    have q0 : (0 : Int) ≤ (n : Int) := by omega
    have q1 : (n : Int) < ((i + 1 : Nat) : Int) := by omega
    have q4 : (n : Int) < ((l.take (i + 1)).length : Int) := by omega
    simp only [spec_l2Place_h3_eq, rdT_get (e := EvK) he, rdT_get (e := EvK) ho, wrap_nat (show n < 9223372036854775807 by omega), wrap_nat (show c < 9223372036854775807 by omega), ev_ite_iff, ev_none_iff]
    simp only [if_pos q0, if_pos q1, if_pos q2, if_pos q3, if_pos q4]
    rw [cnt_cons]
    by_cases h : o.2.1 = e.2.1
    · rw [if_pos h, if_pos h]
      have := ih (c + 1) (by omega)
      rw [show c + (cnt rest e.2.1 + 1) = c + 1 + cnt rest e.2.1 by omega]
      exact this
    · rw [if_neg h, if_neg h]
      exact ih c (by omega)
/-- Is the cut big enough for all, and not too big? -/
def cutFrom (l : List EvT) : Nat → List Int → Bool
  | _, [] => true
  | p, n :: r => decide (0 ≤ n ∧ n ≤ (cnt l (p : Int) : Int)) && cutFrom l (p + 1) r
def cutB (l : List EvT) (cut : List Int) : Bool := decide (cut.length = 6) && cutFrom l 0 cut
theorem l2Cut_ev (l : List EvT) (cut : List Int) (hl : l.length ≤ 1048576) (hc : cut.length ≤ 1048576) : Ev (fun k => spec_l2Cut k l cut) (cutB l cut) := by
  refine ev_congr (fun k => spec_l2Cut_eq k l cut) ?_
  unfold cutB
  by_cases h6 : cut.length = 6
  · refine ev_if_neg (by omega) ?_
    rw [decide_eq_true h6, Bool.true_and]
    refine drop_ind0 cut (fun p rest => Ev (fun k => spec_l2Cut_h4 k l cut (cut.length : Int) (p : Int)) (cutFrom l p rest)) ?_ ?_
    · exact ev_last fun k => by rw [spec_l2Cut_h4_eq, if_neg (by omega)]; rfl
    · intro p x rest hp hx _ ih
      refine ev_shift ?_
      simp only [spec_l2Cut_h4_eq, rdT_get (e := .int .i64) hx, ev_ite_iff, ev_none_iff]
      have q0 : (0 : Int) ≤ (p : Int) := by omega
      have q1 : (p : Int) < (cut.length : Int) := by omega
      simp only [if_pos q0, if_pos q1]
      have key := drop_ind0 l (fun n rs => ∀ c : Nat, c ≤ n → Ev (fun k => spec_l2Cut_h8 k l (p : Int) x (c : Int) cut (cut.length : Int) (p : Int) l (l.length : Int) (n : Int)) (decide (0 ≤ x ∧ x ≤ ((c + cnt rs (p : Int) : Nat) : Int)) && cutFrom l (p + 1) rest)) ?_ ?_
      · have := key 0 (by omega)
        rw [Nat.zero_add] at this
        exact this
      · intro c hc
        refine ev_shift ?_
        simp only [spec_l2Cut_h8_eq, ev_bind_iff (l1In_ev _ _ _), wrap_nat (show p < 9223372036854775807 by omega), ev_ite_iff, ev_some_iff]
        rw [if_neg (by omega)]
        have e0 : ((c + cnt [] (p : Int) : Nat) : Int) = (c : Int) := rfl
        rw [e0]
        by_cases h : 0 ≤ x ∧ x ≤ (c : Int)
        · rw [decide_eq_true h]
          simpa using ih
        · rw [decide_eq_false h]
          simp
      · intro n o rs hn ho _ ih2 c hc
        refine ev_shift ?_
        have q2 : (0 : Int) ≤ (n : Int) := by omega
        have q3 : (n : Int) < (l.length : Int) := by omega
        simp only [spec_l2Cut_h8_eq, rdT_get (e := EvK) ho, wrap_nat (show n < 9223372036854775807 by omega), wrap_nat (show c < 9223372036854775807 by omega), ev_ite_iff, ev_none_iff]
        simp only [if_pos q2, if_pos q3]
        rw [cnt_cons]
        by_cases h : o.2.1 = (p : Int)
        · rw [if_pos h, if_pos h]
          have := ih2 (c + 1) (by omega)
          rw [show c + (cnt rs (p : Int) + 1) = c + 1 + cnt rs (p : Int) by omega]
          exact this
        · rw [if_neg h, if_neg h]
          exact ih2 c (by omega)
  · rw [decide_eq_false h6, Bool.false_and]
    exact ev_if_pos (by omega) (ev_some _)
/-- Is an event inside the cut? -/
def insB (l : List EvT) (cut : List Int) (i : Nat) : Bool := match l[i]? with | some e => decide ((cnt (l.take i) e.2.1 : Int) < rdT (.int .i64) cut e.2.1) | none => false
theorem insB_at {l : List EvT} {cut : List Int} {i : Nat} {e : EvT} (h : l[i]? = some e) : insB l cut i = decide ((cnt (l.take i) e.2.1 : Int) < rdT (.int .i64) cut e.2.1) := by unfold insB; rw [h]
def badB (l : List EvT) (cut : List Int) (i : Nat) (e : EvT) : Bool := decide (e.1 = 3) && insB l cut i && !insB l cut (lastP l (sendP e) i).toNat
def cutRun (l : List EvT) (cut : List Int) : Nat → List EvT → Bool
  | _, [] => true
  | n, e :: r => if badB l cut n e = true then false else cutRun l cut (n + 1) r
theorem sent_has {l : List EvT} (h : events l = true) {i : Nat} {e : EvT} (he : l[i]? = some e) (h3 : e.1 = 3) : 0 ≤ lastP l (sendP e) i := by
  have hg := good_at h he
  have n1 : ¬ e.1 = 1 := by rw [h3]; decide
  simp only [evOk, if_neg n1, Bool.and_eq_true] at hg
  have hs : sentB (l.take i) e.2.2 = true := by simpa [h3] using hg.2.2
  unfold sentB at hs
  simp only [List.any_eq_true, Bool.and_eq_true, decide_eq_true_eq] at hs
  obtain ⟨o, ho, h1, h2⟩ := hs
  obtain ⟨j, hj⟩ := List.getElem?_of_mem ho
  have hji : j < i := by
    have := (List.getElem?_eq_some_iff.1 hj).1
    simp at this; omega
  rw [List.getElem?_take_of_lt hji] at hj
  exact lastP_has l _ i j o hji hj (by simp [sendP, h3, h1, h2])
theorem proc_ok {l : List EvT} (h : events l = true) {i : Nat} {e : EvT} (he : l[i]? = some e) : ∃ p : Nat, p < 6 ∧ e.2.1 = (p : Int) := by
  have hg := good_at h he
  simp only [evOk, Bool.and_eq_true, inI, decide_eq_true_eq] at hg
  have h1 := hg.1.2
  exact ⟨e.2.1.toNat, by omega, by omega⟩
theorem specRun_ev (l : List EvT) (cut : List Int) (hl : l.length ≤ 1048576) (hg : events l = true) (hc : cut.length = 6) : Ev (fun k => spec_GoodCut_h4 k l cut l (l.length : Int) 0) (cutRun l cut 0 l, true) := by
  refine drop_ind0 l (fun n rest => Ev (fun k => spec_GoodCut_h4 k l cut l (l.length : Int) (n : Int)) (cutRun l cut n rest, true)) ?_ ?_
  · exact ev_last fun k => by rw [spec_GoodCut_h4_eq, if_neg (by omega)]; rfl
  · intro n e rest hn he _ ih
    obtain ⟨p, hp, ep⟩ := proc_ok hg he
    have q0 : (0 : Int) ≤ (n : Int) := by omega
    have q1 : (n : Int) < (l.length : Int) := by omega
    have q2 : (0 : Int) ≤ e.2.1 := by rw [ep]; exact Int.natCast_nonneg _
    have q3 : e.2.1 < (cut.length : Int) := by rw [ep, hc]; omega
    refine ev_shift ?_
    simp only [spec_GoodCut_h4_eq, rdT_get (e := EvK) he, wrap_nat (show n < 9223372036854775807 by omega), ev_bind_iff (place_ev l n e he hl), ev_bind_iff (l2Causes_ev l n e he hl), ev_ite_iff, ev_none_iff]
    simp only [if_pos q0, if_pos q1, if_pos q2, if_pos q3]
    have hi := insB_at (cut := cut) he
    by_cases h3 : e.1 = 3
    · rw [if_neg (by simp [h3])]
      by_cases hin : (cnt (l.take n) e.2.1 : Int) < rdT (.int .i64) cut e.2.1
      · rw [if_neg (fun h => absurd hin (Int.not_lt.2 (Int.lt_add_one_iff.1 h)))]
        obtain ⟨j, o, h1, h2, h4, h5⟩ := lastP_some l _ n (sent_has hg he h3)
        obtain ⟨p', hp', ep'⟩ := proc_ok hg h4
        have r0 : (0 : Int) ≤ (j : Int) := by omega
        have r1 : (j : Int) < (l.length : Int) := by omega
        have r2 : (0 : Int) ≤ o.2.1 := by rw [ep']; exact Int.natCast_nonneg _
        have r3 : o.2.1 < (cut.length : Int) := by rw [ep', hc]; omega
        have ho := insB_at (cut := cut) h4
        simp only [h1, rdT_get (e := EvK) h4, ev_bind_iff (place_ev l j o h4 hl), ev_ite_iff, ev_none_iff, ev_some_iff]
        simp only [if_pos r0, if_pos r1, if_pos r2, if_pos r3]
        have hb : badB l cut n e = !insB l cut j := by unfold badB; rw [hi, decide_eq_true hin, decide_eq_true h3, h1]; rfl
        unfold cutRun
        rw [hb, ho]
        by_cases hj : (cnt (l.take j) o.2.1 : Int) < rdT (.int .i64) cut o.2.1
        · rw [if_neg (fun h => absurd hj (Int.not_lt.2 (Int.lt_add_one_iff.1 h))), decide_eq_true hj]
          exact ih
        · rw [if_pos (Int.lt_add_one_iff.2 (Int.not_lt.1 hj)), decide_eq_false hj]
          rfl
      · rw [if_pos (Int.lt_add_one_iff.2 (Int.not_lt.1 hin))]
        have hb : badB l cut n e = false := by unfold badB; rw [hi, decide_eq_false hin]; simp
        unfold cutRun
        rw [hb]
        exact ih
    · rw [if_pos h3]
      have hb : badB l cut n e = false := by unfold badB; rw [decide_eq_false h3]; rfl
      unfold cutRun
      rw [hb]
      exact ih
/-! the program's side -/
theorem badCauses {l : List EvT} {cut : List Int} (hg : events l = true) {i : Nat} {e : EvT} (he : l[i]? = some e) : (insB l cut i && (causesP l e i).any fun k => !insB l cut k.toNat) = badB l cut i e := by
  cases hin : insB l cut i with
  | false => unfold badB; rw [hin]; simp
  | true =>
    have own : (ownP l e i).any (fun k => !insB l cut k.toNat) = false := by
      unfold ownP
      by_cases h : lastP l (procP e) i ≥ 0
      · obtain ⟨j, o, h1, h2, h3, h4⟩ := lastP_some l _ i h
        rw [if_pos h, h1]
        have ho := insB_at (cut := cut) h3
        rw [insB_at he, decide_eq_true_eq] at hin
        have hp : o.2.1 = e.2.1 := by simpa [procP] using h4
        have hm := cnt_mono l e.2.1 (Nat.le_of_lt h2)
        have : insB l cut j = true := by rw [ho, hp, decide_eq_true_eq]; omega
        simp [this]
      · rw [if_neg h]; rfl
    unfold causesP badB
    rw [List.any_append, own, Bool.false_or, hin, Bool.true_and, Bool.and_true, idx_one hg e i]
    by_cases h3 : e.1 = 3
    · rw [if_pos (sent_has hg he h3), decide_eq_true h3]
      simp
    · have : ¬ lastP l (sendP e) i ≥ 0 := by
        intro h
        obtain ⟨j, o, h1, h2, h4, h5⟩ := lastP_some l _ i h
        simp [sendP, h3] at h5
      rw [if_neg this, decide_eq_false h3]
      rfl
theorem causes_lt (l : List EvT) (e : EvT) (i : Nat) : ∀ x ∈ causesP l e i, ∃ j : Nat, j < i ∧ x = (j : Int) := by
  have idx : ∀ n, ∀ x ∈ idxP l (sendP e) n, ∃ j : Nat, j < n ∧ x = (j : Int) := by
    intro n
    induction n with
    | zero => intro x hx; simp [idxP] at hx
    | succ n ih =>
      intro x hx
      unfold idxP at hx
      split at hx
      · rcases List.mem_append.1 hx with h | h
        · obtain ⟨j, h1, h2⟩ := ih x h; exact ⟨j, by omega, h2⟩
        · simp at h; exact ⟨n, by omega, h⟩
      · obtain ⟨j, h1, h2⟩ := ih x hx; exact ⟨j, by omega, h2⟩
  intro x hx
  rcases List.mem_append.1 hx with h | h
  · unfold ownP at h
    split at h
    · rename_i h0
      simp at h
      have := lastP_lt l (procP e) i
      exact ⟨x.toNat, by omega, by omega⟩
    · cases h
  · exact idx i x h
theorem causes_len (l : List EvT) (e : EvT) (i : Nat) : (causesP l e i).length ≤ i + 1 := by
  have := idxP_len l (sendP e) i
  unfold causesP ownP
  split <;> simp <;> omega
theorem implRun_ev (l : List EvT) (cut : List Int) (ins : List Bool) (hl : l.length ≤ 1048576) (hg : events l = true) (hi : ins.length = l.length) (hin : ∀ j, j < l.length → ins[j]? = some (insB l cut j)) : Ev (fun k => impl_GoodCut_h18 k l ins (l.length : Int) 0) (cutRun l cut 0 l, true) := by
  refine drop_ind0 l (fun n rest => Ev (fun k => impl_GoodCut_h18 k l ins (l.length : Int) (n : Int)) (cutRun l cut n rest, true)) ?_ ?_
  · exact ev_last fun k => by rw [impl_GoodCut_h18_eq, if_neg (by omega)]; rfl
  · intro n e rest hn he _ ih
    refine ev_shift ?_
    have q1 : (n : Int) < (l.length : Int) := by omega
    simp only [impl_GoodCut_h18_eq, ev_bind_iff (causes_ev l n e he hl), ev_ite_iff]
    rw [if_pos q1]
    have hb := badCauses (cut := cut) hg he
    have hcl := causes_len l e n
    have key := drop_ind0 (causesP l e n) (fun j rs => Ev (fun k => impl_GoodCut_h21 k l ins (n : Int) (l.length : Int) (n : Int) (causesP l e n) ((causesP l e n).length : Int) (j : Int)) (if (insB l cut n && rs.any fun k => !insB l cut k.toNat) = true then (false, true) else (cutRun l cut (n + 1) rest, true))) ?_ ?_
    · rw [hb] at key
      unfold cutRun
      by_cases h : badB l cut n e = true
      · simpa [h] using key
      · simpa [h] using key
    · refine ev_shift ?_
      simp only [impl_GoodCut_h21_eq, wrap_nat (show n < 9223372036854775807 by omega), ev_ite_iff]
      rw [if_neg (by omega)]
      simpa using ih
    · intro j x rs hj hx _ ih2
      obtain ⟨y, hy, rfl⟩ := causes_lt l e n x (List.mem_of_getElem? hx)
      have r0 : (0 : Int) ≤ (j : Int) := by omega
      have r1 : (j : Int) < ((causesP l e n).length : Int) := by omega
      have r2 : (0 : Int) ≤ (n : Int) := by omega
      have r3 : (n : Int) < (ins.length : Int) := by omega
      have r4 : (0 : Int) ≤ (y : Int) := by omega
      have r5 : (y : Int) < (ins.length : Int) := by omega
      refine ev_shift ?_
      simp only [impl_GoodCut_h21_eq, rdT_get (e := .int .i64) hx, rdT_get (e := .bool) (hin n hn), rdT_get (e := .bool) (hin y (by omega)), wrap_nat (show j < 9223372036854775807 by omega), ev_ite_iff, ev_some_iff, ev_none_iff]
      simp only [if_pos r0, if_pos r1, if_pos r2, if_pos r3, if_pos r4, if_pos r5]
      rw [List.any_cons, Int.toNat_natCast]
      cases h1 : insB l cut n with
      | false => rw [h1] at ih2; simpa using ih2
      | true =>
        rw [h1] at ih2
        cases h2 : insB l cut y with
        | false => simp
        | true => simpa using ih2
theorem cutFrom_seen (l : List EvT) (cut seen : List Int) (hc : cut.length = 6) (hs : seen.length = 6) (hsn : ∀ p : Nat, p < 6 → seen[p]? = some (cnt l (p : Int) : Int)) (ins : List Bool) (r : Bool × Bool) (H : Ev (fun k => impl_GoodCut_h18 k l ins (l.length : Int) 0) r) :
    Ev (fun k => impl_GoodCut_h12 k l seen ins cut (cut.length : Int) 0) (if cutFrom l 0 cut = true then r else (false, false)) := by
  refine drop_ind0 cut (fun p rest => Ev (fun k => impl_GoodCut_h12 k l seen ins cut (cut.length : Int) (p : Int)) (if cutFrom l p rest = true then r else (false, false))) ?_ ?_
  · refine ev_shift ?_
    simp only [impl_GoodCut_h12_eq, ev_ite_iff]
    rw [if_neg (by omega)]
    exact H
  · intro p x rest hp hx _ ih
    refine ev_shift ?_
    have r0 : (0 : Int) ≤ (p : Int) := by omega
    have r1 : (p : Int) < (cut.length : Int) := by omega
    have r2 : (p : Int) < ((6 : Nat) : Int) := by omega
    simp only [impl_GoodCut_h12_eq, rdT_get (e := .int .i64) hx, rdT_get (e := .int .i64) (hsn p (by omega)), ev_bind_iff (in_ev _ _ _), wrap_nat (show p < 9223372036854775807 by omega), ev_ite_iff, ev_some_iff, ev_none_iff]
    simp only [if_pos r0, if_pos r1, if_pos r2]
    unfold cutFrom
    by_cases h : 0 ≤ x ∧ x ≤ (cnt l (p : Int) : Int)
    · rw [decide_eq_true h, Bool.true_and]
      simpa using ih
    · rw [decide_eq_false h, Bool.false_and]
      simp
theorem seen_ev (l : List EvT) (cut : List Int) (hl : l.length ≤ 1048576) (hg : events l = true) (hc : cut.length = 6) : Ev (fun k => impl_GoodCut_h6 k l cut (List.replicate 6 (0 : Int)) [] l (l.length : Int) 0) (if cutFrom l 0 cut = true then (cutRun l cut 0 l, true) else (false, false)) := by
  have key := drop_ind0 l (fun n rest => ∀ (seen : List Int) (ins : List Bool), seen.length = 6 → (∀ p : Nat, p < 6 → seen[p]? = some (cnt (l.take n) (p : Int) : Int)) → ins.length = n → (∀ j, j < n → ins[j]? = some (insB l cut j)) → Ev (fun k => impl_GoodCut_h6 k l cut seen ins l (l.length : Int) (n : Int)) (if cutFrom l 0 cut = true then (cutRun l cut 0 l, true) else (false, false))) ?_ ?_
  · refine key _ [] (by simp) (fun p hp => ?_) rfl (fun j hj => by omega)
    rw [List.getElem?_replicate, if_pos hp]
    rfl
  · intro seen ins hs hsn hi hin
    refine ev_shift ?_
    simp only [impl_GoodCut_h6_eq, ev_ite_iff]
    rw [if_neg (by omega)]
    rw [List.take_length] at hsn
    exact cutFrom_seen l cut seen hc hs hsn ins _ (implRun_ev l cut ins hl hg hi hin)
  · intro n e rest hn he _ ih seen ins hs hsn hi hin
    obtain ⟨p, hp, ep⟩ := proc_ok hg he
    have q0 : (0 : Int) ≤ (n : Int) := by omega
    have q1 : (n : Int) < (l.length : Int) := by omega
    have q2 : (0 : Int) ≤ e.2.1 := by rw [ep]; exact Int.natCast_nonneg _
    have q3 : e.2.1 < (cut.length : Int) := by rw [ep, hc]; omega
    have q4 : e.2.1 < ((6 : Nat) : Int) := by rw [ep]; omega
    have hcl := cnt_le (l.take n) (p : Int)
    have htl : (l.take n).length = n := by simp; omega
    have hr : rdT (.int .i64) seen e.2.1 = (cnt (l.take n) (p : Int) : Int) := by rw [ep]; exact rdT_get (e := .int .i64) (hsn p hp)
    have hin1 : insB l cut n = decide ((cnt (l.take n) (p : Int) : Int) < rdT (.int .i64) cut e.2.1) := by rw [insB_at he, ep]
    have hap : ins.length + (List.cons (insB l cut n) ([] : List Bool)).length ≤ 140737488355328 := by simp only [List.length_cons, List.length_nil]; omega
    refine ev_shift ?_
    simp only [impl_GoodCut_h6_eq, rdT_get (e := EvK) he, hr, ← hin1, wrap_nat (show n < 9223372036854775807 by omega), wrap_nat (show cnt (l.take n) (p : Int) < 9223372036854775807 by omega), ev_ite_iff, ev_none_iff]
    simp only [if_pos q0, if_pos q1, if_pos q2, if_pos q3, if_pos q4, if_pos hap]
    refine ih _ _ (by simpa using hs) (fun p' hp' => ?_) (by simp [hi]) (fun j hj => ?_)
    · rw [take_snoc he, cnt_snoc, ep, Int.toNat_natCast]
      by_cases hpp : p = p'
      · subst hpp
        rw [List.getElem?_set_self (by omega), if_pos rfl]
      · rw [List.getElem?_set_ne hpp, hsn p' hp', if_neg (by omega)]
        rfl
    · by_cases hjn : j = n
      · subst hjn
        rw [List.getElem?_append_right (by omega), hi]
        simp
      · rw [List.getElem?_append_left (by omega)]
        exact hin j (by omega)
theorem toEvent_ev (x : EvT) : Ev (fun k => laws_toEvent k x) x := ev_congr (fun k => laws_toEvent_eq k x) (ev_some x)
theorem eqEvent_ev (x : EvT) : Ev (fun k => laws_eqEvent k x x) true := ev_congr (fun k => laws_eqEvent_eq k x x) (ev_if_neg (by simp) (ev_if_neg (by simp) (ev_if_neg (by simp) (ev_some _))))
theorem toEventS_ev (l) (hl : l.length ≤ 1048576) : Ev (fun k => laws_toEventS k l) l := by
  refine ev_congr (fun k => laws_toEventS_eq k l) ?_
  simp only [ev_ite_iff]
  rw [if_pos trivial, if_pos (by omega)]
  simpa using to_row (l := l) (cv := id) (z := _) (fun k l r i => laws_toEventS_h3_eq k l r i) (fun x _ => toEvent_ev x) (by omega)
theorem eqEventS_ev (l) (hl : l.length ≤ 140737488355328) : Ev (fun k => laws_eqEventS k l l) true := by
  refine ev_congr (fun k => laws_eqEventS_eq k l l) ?_
  simp only [ev_ite_iff]
  rw [if_neg (by simp)]
  exact eq_row (l := l) (fun k a b i => laws_eqEventS_h4_eq k a b i) (fun x _ => eqEvent_ev x) (by omega)
theorem law (a0 : List EvT) (a1 : List Int) (h0 : okT (.slice EvK) a0) (h1 : okT (.slice (.int .i64)) a1) : ∃ k, laws_FnExactGoodCut k a0 a1 = some true := by
  apply ev_fuel
  refine ev_congr (fun k => laws_FnExactGoodCut_eq k a0 a1) ?_
  by_cases hl1 : 1048576 < a1.length
  · exact ev_if_pos (by omega) (ev_some _)
  refine ev_if_neg (by omega) ?_
  have hl0 : a0.length ≤ 140737488355328 := Nat.le_trans h0.1 (by omega)
  have w : wrap64 (1048576 - (a0.length : Int)) = 1048576 - a0.length := wrap_of (by omega) (by omega)
  by_cases hneg : 1048576 - (a0.length : Int) < 0
  · refine ev_bind (ev_congr (fun k => laws_szEventS_eq k a0 _) ?_) (ev_if_pos (show (-1 : Int) < 0 by omega) (ev_some _))
    rw [w]
    exact ev_if_pos hneg (ev_some _)
  refine ev_bind (a := 1048576 - (a0.length : Int)) (ev_congr (fun k => laws_szEventS_eq k a0 _) ?_) (ev_if_neg hneg ?_)
  · rw [w]
    exact ev_if_neg hneg (ev_some _)
  have hl : a0.length ≤ 1048576 := by omega
  have to := toEventS_ev a0 hl
  have ti := toIntS_ev a1 (by omega)
  have main : ∃ r : Bool × Bool, Ev (fun k => spec_GoodCut k a0 a1) r ∧ Ev (fun k => impl_GoodCut k a0 a1) r := by
    have s1 := specEvents_ev a0 hl
    have i1 := areEvents_ev a0 hl
    cases hg : events a0 with
    | false =>
      rw [hg] at s1 i1
      exact ⟨_, ev_congr (fun k => spec_GoodCut_eq k a0 a1) (ev_bind s1 (ev_if_pos (by simp) (ev_some _))), ev_congr (fun k => impl_GoodCut_eq k a0 a1) (ev_bind i1 (ev_if_pos (by simp) (ev_some _)))⟩
    | true =>
      rw [hg] at s1 i1
      have s2 := l2Cut_ev a0 a1 hl (by omega)
      by_cases h6 : a1.length = 6
      · have i2 := seen_ev a0 a1 hl hg h6
        have s3 := specRun_ev a0 a1 hl hg h6
        unfold cutB at s2
        rw [decide_eq_true h6, Bool.true_and] at s2
        cases hc : cutFrom a0 0 a1 with
        | false =>
          rw [hc] at s2 i2
          exact ⟨_, ev_congr (fun k => spec_GoodCut_eq k a0 a1) (ev_bind s1 (ev_if_neg (by simp) (ev_bind s2 (ev_if_pos (by simp) (ev_some _))))), ev_congr (fun k => impl_GoodCut_eq k a0 a1) (ev_bind i1 (ev_if_neg (by simp) (ev_if_neg (by omega) i2)))⟩
        | true =>
          rw [hc] at s2 i2
          exact ⟨_, ev_congr (fun k => spec_GoodCut_eq k a0 a1) (ev_bind s1 (ev_if_neg (by simp) (ev_bind s2 (ev_if_neg (by simp) s3)))), ev_congr (fun k => impl_GoodCut_eq k a0 a1) (ev_bind i1 (ev_if_neg (by simp) (ev_if_neg (by omega) i2)))⟩
      · unfold cutB at s2
        rw [decide_eq_false h6, Bool.false_and] at s2
        exact ⟨_, ev_congr (fun k => spec_GoodCut_eq k a0 a1) (ev_bind s1 (ev_if_neg (by simp) (ev_bind s2 (ev_if_pos (by simp) (ev_some _))))), ev_congr (fun k => impl_GoodCut_eq k a0 a1) (ev_bind i1 (ev_if_neg (by simp) (ev_if_pos (by omega) (ev_some _))))⟩
  obtain ⟨r, b1, b2⟩ := main
  exact ev_bind to (ev_bind ti (ev_bind b1 (ev_bind to (ev_bind ti (ev_bind b2 (ev_if_neg (by simp) (ev_if_neg (by simp) (ev_bind to (ev_bind (eqEventS_ev a0 hl0) (ev_if_neg (by simp) (ev_bind ti (ev_bind (eqIntS_ev a1 (by omega)) (ev_if_neg (by simp) (ev_some _))))))))))))))

end Go.Proofs.Ytmfcblbpicbhoaa.Fms
