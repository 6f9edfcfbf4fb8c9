/- The pure statement of the law FnExactCompareClock: at every two clocks the printed law answers true. -/
import Derived.Test.YtjbaakfamepbeaaSayFnExactCompareClock
import Derived.Test.YtjbaakfamepbeaaAid
namespace Go.Proofs.Ytjbaakfamepbeaa.Pure
open Go.RowKit Go.Proofs.Ytjbaakfamepbeaa.PFnExactCompareClock Go.Proofs.YtjbaakfamepbeaaW.PrintWords Go.Proofs.YtjbaakfamepbeaaW.PrintLast Go.Proofs.Ytjbaakfamepbeaa.Aid
set_option linter.unusedVariables false
set_option linter.unusedSimpArgs false

theorem in_f (a b c : Int) : impl_in.f a b c = some (decide (b ≤ a ∧ a ≤ c)) := by
  unfold impl_in.f
  by_cases h : a ≥ b
  · rw [if_pos h]; simp [h]
  · rw [if_neg h]; simp [h]
theorem l1In_f (a b c : Int) : spec_l1In.f a b c = some (decide (b ≤ a ∧ a ≤ c)) := by
  unfold spec_l1In.f
  by_cases h : a ≥ b
  · rw [if_pos h]; simp [h]
  · rw [if_neg h]; simp [h]

theorem szIntS_f (l : List Int) (a : Int) (hl : l.length ≤ 140737488355328) (h0 : 0 ≤ a) (h1 : a ≤ 1048576) : laws_szIntS.f l a = some (if a < l.length then -1 else a - l.length) := by
  have w : wrap64 (a - (l.length : Int)) = a - l.length := wrap_of (by omega) (by omega)
  unfold laws_szIntS.f
  rw [w]
  by_cases h : a < (l.length : Int)
  · rw [if_pos (by omega), if_pos h]
  · rw [if_neg (by omega), if_neg h]

theorem toIntS_ev (l : List Int) (hl : l.length ≤ 1048576) : Ev (fun k => laws_toIntS.f k l) l := by
  have key := fill_loop (fun k xs i => laws_toIntS.l0 k l xs i) l (fun x => x) (fun k xs => by simp [laws_toIntS.l0]) (fun n x xs hx hn hl' H => ?_) 0
  · have e : l.map (fun x => x) = l := by simp
    rw [e] at key
    refine Ev.congr (fun k => ?_) key
    simp only [laws_toIntS.f]
    rw [if_pos (by omega), if_pos (by omega)]
    simp
  · refine Ev.step (fun k => ?_) H
    simp only [laws_toIntS.l0]
    rw [if_pos (by omega), if_pos (by omega), if_pos (by omega), wrap_nat (by omega), rd_nat hx]
    simp
theorem eqIntS_ev (l : List Int) (hl : l.length ≤ 140737488355328) : Ev (fun k => laws_eqIntS.f k l l) true := by
  have key := eq_loop (fun k i => laws_eqIntS.l0 k l l i) l l (fun x y => decide (x = y)) rfl (fun k => by simp [laws_eqIntS.l0]) (fun n x y r hx hy hn _ he H => ?_) (fun n x y hx hy hn _ he => ?_)
  · rw [zip_self_all (fun x y : Int => decide (x = y)) (by simp) l] at key
    refine Ev.congr (fun k => ?_) key
    simp [laws_eqIntS.f]
  · refine Ev.step (fun k => ?_) H
    simp only [laws_eqIntS.l0]
    rw [if_pos (by omega), if_pos (by omega), if_pos (by omega), wrap_nat (by omega)]
    simp
  · rw [hx] at hy
    obtain rfl := Option.some.inj hy
    simp at he

def inR (x : Int) : Bool := decide (0 ≤ x ∧ x ≤ 1000000)
def clock (l : List Int) : Bool := l.all inR && decide (l.length = 6)
theorem contains_ev (l : List Int) (hl : l.length ≤ 1048576) : Ev (fun k => slices_ContainsFunc_int_int_h84.f k l) (l.any fun x => !inR x) := by
  obtain ⟨r, h1, h2⟩ := idx_loop (fun k i => slices_IndexFunc_int_int_h84.l0 k l (l.length : Int) i) l (fun x => !inR x) (fun k => by simp only [slices_IndexFunc_int_int_h84.l0]; rw [if_neg (by omega)])
    (fun n x hx hn hp => ev_shift (by
      simp only [slices_IndexFunc_int_int_h84.l0, impl_isClock_1.f, in_f, Option.bind_some, rd_nat hx]
      refine ev_if_pos (by omega) (ev_if_pos (by omega) (ev_if_pos (by omega) ?_))
      unfold inR at hp
      simp only [hp, if_true]
      exact ev_some _))
    (fun n x r hx hn hp H => ev_shift (by
      simp only [slices_IndexFunc_int_int_h84.l0, impl_isClock_1.f, in_f, Option.bind_some, rd_nat hx, wrap_nat (show n < 9223372036854775807 by omega)]
      refine ev_if_pos (by omega) (ev_if_pos (by omega) (ev_if_pos (by omega) ?_))
      unfold inR at hp
      simp only [hp, Bool.false_eq_true, if_false]
      exact H))
  unfold slices_ContainsFunc_int_int_h84.f slices_IndexFunc_int_int_h84.f
  refine Ev.bind h1 ?_
  simp only [h2]
  exact ev_some _
theorem isClock_ev (l : List Int) : Ev (fun k => impl_isClock.f k l) (clock l) := by
  unfold impl_isClock.f clock
  by_cases h : l.length = 6
  · simp only [show (l.length : Int) = 6 by omega, if_true, h, decide_true, Bool.and_true]
    refine Ev.bind (contains_ev l (by omega)) ?_
    have : (!l.any fun x => !inR x) = l.all inR := by rw [List.not_any_eq_all_not]; simp
    simp only [this]
    exact ev_some _
  · simp only [if_neg (show ¬ (l.length : Int) = 6 by omega), h, decide_false, Bool.and_false]
    exact ev_some _
theorem l2Clock_ev (l : List Int) (hl : l.length ≤ 1048576) : Ev (fun k => spec_l2Clock.f k l) (clock l) := by
  have key : ∀ n, n ≤ l.length → Ev (fun k => spec_l2Clock.l0 k l (l.length : Int) (n : Int) l) ((l.drop n).all inR && decide (l.length = 6)) := by
    refine drop_ind l (fun n rest => Ev (fun k => spec_l2Clock.l0 k l (l.length : Int) (n : Int) l) (rest.all inR && decide (l.length = 6))) ?_ ?_
    · refine ev_last (fun k => ?_)
      simp only [spec_l2Clock.l0]
      rw [if_neg (by omega)]
      by_cases h : l.length = 6
      · simp [h]
      · have : ¬ ((l.length : Int) = 6) := by omega
        simp [h, this]
    · intro n x rest hn hx _ ih
      refine ev_shift ?_
      simp only [spec_l2Clock.l0, l1In_f, Option.bind_some, rd_nat hx, wrap_nat (show n < 9223372036854775807 by omega)]
      refine ev_if_pos (by omega) (ev_if_pos (by omega) (ev_if_pos (by omega) ?_))
      rw [List.all_cons]
      cases h : inR x with
      | true =>
        unfold inR at h
        simpa only [h, if_true, Bool.true_and] using ih
      | false =>
        unfold inR at h
        simp only [h, Bool.false_eq_true, if_false, Bool.false_and]
        exact ev_some _
  have := key 0 (by omega)
  simpa [spec_l2Clock.f, clock] using this
/-- Both loops tell the same two bools; what is made of them is the same, too. -/
def told (x y : Bool) : Int × Bool := if x && y then (2, true) else if x then (-1, true) else if y then (1, true) else (0, true)
theorem loops (a b : List Int) (h : a.length = b.length) (hl : a.length ≤ 6) : ∀ n, n ≤ a.length → ∀ x y, ∃ r, Ev (fun k => spec_CompareClock.l0 k x y (a.length : Int) (n : Int) a b) r ∧ Ev (fun k => impl_CompareClock.l0 k x y a (a.length : Int) (n : Int) b) r := by
  intro n hn
  induction hd : a.length - n generalizing n with
  | zero =>
    intro x y
    have e : n = a.length := by omega
    subst e
    refine ⟨told x y, ev_shift ?_, ev_shift ?_⟩
    · simp only [spec_CompareClock.l0]
      refine ev_if_neg (by omega) ?_
      cases x <;> cases y <;> simp only [Bool.false_eq_true, if_false, if_true] <;> exact ev_last (fun k => by simp [spec_CompareClock.j2, told])
    · simp only [impl_CompareClock.l0]
      refine ev_if_neg (by omega) ?_
      cases x <;> cases y <;> simp only [Bool.false_eq_true, if_false, if_true] <;> exact ev_last (fun k => by simp [impl_CompareClock.j2, told])
  | succ d ih =>
    intro x y
    have hlt : n < a.length := by omega
    have hx : a[n]? = some a[n] := List.getElem?_eq_getElem hlt
    have hy : b[n]? = some (b[n]'(by omega)) := List.getElem?_eq_getElem (by omega)
    generalize a[n] = u at hx
    generalize (b[n]'(by omega)) = v at hy
    obtain ⟨r, h1, h2⟩ := ih (n + 1) (by omega) (by omega) (x || decide (u < v)) (y || decide (u > v))
    refine ⟨r, ev_shift ?_, ev_shift ?_⟩
    · simp only [spec_CompareClock.l0, rd_nat hx, rd_nat hy, wrap_nat (show n < 9223372036854775807 by omega)]
      refine ev_if_pos (by omega) ?_
      cases x <;> cases y <;> simp only [Bool.false_eq_true, if_false, if_true, Bool.true_or, Bool.false_or] at h1 ⊢
      all_goals first | exact h1 | exact ev_if_pos (by omega) (ev_if_pos (by omega) (ev_if_pos (by omega) h1))
    · simp only [impl_CompareClock.l0, rd_nat hx, rd_nat hy, wrap_nat (show n < 9223372036854775807 by omega)]
      refine ev_if_pos (by omega) (ev_if_pos (by omega) (ev_if_pos (by omega) ?_))
      cases x <;> cases y <;> simp only [Bool.false_eq_true, if_false, if_true, Bool.true_or, Bool.false_or] at h2 ⊢
      all_goals first | exact h2 | exact ev_if_pos (by omega) h2
theorem agree (a b : List Int) (ha : a.length ≤ 1048576) (hb : b.length ≤ 1048576) : ∃ r, Ev (fun k => spec_CompareClock.f k a b) r ∧ Ev (fun k => impl_CompareClock.f k a b) r := by
  have hs : Ev (fun k => spec_CompareClock.j0 k true a b) (0, false) := ev_last (fun k => by simp only [spec_CompareClock.j0, if_true])
  have hi : Ev (fun k => impl_CompareClock.j0 k true a b) (0, false) := ev_last (fun k => by simp only [impl_CompareClock.j0, if_true])
  unfold spec_CompareClock.f impl_CompareClock.f
  cases ca : clock a with
  | false =>
    have s1 := l2Clock_ev a ha
    have s2 := isClock_ev a
    rw [ca] at s1 s2
    exact ⟨_, Ev.bind s1 (by simpa using hs), Ev.bind s2 (by simpa using hi)⟩
  | true =>
    have s1 := l2Clock_ev a ha
    have s2 := isClock_ev a
    rw [ca] at s1 s2
    have t1 := l2Clock_ev b hb
    have t2 := isClock_ev b
    cases cb : clock b with
    | false =>
      rw [cb] at t1 t2
      exact ⟨_, Ev.bind s1 (by simpa using Ev.bind (f := fun k t => spec_CompareClock.j0 k (!t) a b) t1 (by simpa using hs)), Ev.bind s2 (by simpa using Ev.bind (f := fun k t => impl_CompareClock.j0 k (!t) a b) t2 (by simpa using hi))⟩
    | true =>
      rw [cb] at t1 t2
      have la : a.length = 6 := by unfold clock at ca; simp at ca; omega
      have lb : b.length = 6 := by unfold clock at cb; simp at cb; omega
      obtain ⟨r, h1, h2⟩ := loops a b (by omega) (by omega) 0 (by omega) false false
      have h1' : Ev (fun k => spec_CompareClock.j0 k (!true) a b) r := ev_shift (by simp only [spec_CompareClock.j0, Bool.not_true, Bool.false_eq_true, if_false]; exact h1)
      have h2' : Ev (fun k => impl_CompareClock.j0 k (!true) a b) r := ev_shift (by simp only [impl_CompareClock.j0, Bool.not_true, Bool.false_eq_true, if_false]; exact h2)
      exact ⟨r, Ev.bind s1 (by simpa only [if_true] using Ev.bind (f := fun k t => spec_CompareClock.j0 k (!t) a b) t1 h1'), Ev.bind s2 (by simpa only [if_true] using Ev.bind (f := fun k t => impl_CompareClock.j0 k (!t) a b) t2 h2')⟩
theorem FnExactCompareClock : laws_FnExactCompareClock.Pure := by
  intro a b ha _ hb _
  have hl : a.length ≤ 140737488355328 := by omega
  have hl2 : b.length ≤ 140737488355328 := by omega
  apply Ev.rounds
  unfold laws_FnExactCompareClock.f
  simp only [laws_szClock.f, szIntS_f a 1048576 hl (by omega) (by omega), Option.bind_some]
  by_cases hs : (1048576 : Int) < (a.length : Int)
  · simp only [if_pos hs]
    exact ev_some _
  · simp only [if_neg hs]
    have h2 : ¬ (1048576 - (a.length : Int) < 0) := by omega
    simp only [if_neg h2, Option.bind_some, szIntS_f b (1048576 - (a.length : Int)) hl2 (by omega) (by omega)]
    by_cases hs2 : (1048576 - (a.length : Int)) < (b.length : Int)
    · simp only [if_pos hs2]
      exact ev_some _
    · simp only [if_neg hs2]
      have h3 : ¬ (1048576 - (a.length : Int) - b.length < 0) := by omega
      simp only [if_neg h3, Option.bind_some]
      have ta : Ev (fun k => laws_toClock.f k a) a := by unfold laws_toClock.f; exact Ev.bind (toIntS_ev a (by omega)) (ev_some _)
      have tb : Ev (fun k => laws_toClock.f k b) b := by unfold laws_toClock.f; exact Ev.bind (toIntS_ev b (by omega)) (ev_some _)
      have ea : ∀ l : List Int, l.length ≤ 1048576 → Ev (fun k => laws_eqClock.f k l l) true := fun l hl => by
        unfold laws_eqClock.f
        exact Ev.bind (eqIntS_ev l (by omega)) (by simpa using ev_some true)
      obtain ⟨r, h4, h5⟩ := agree a b (by omega) (by omega)
      refine Ev.bind ta (Ev.bind tb (Ev.bind h4 (Ev.bind ta (Ev.bind tb (Ev.bind h5 ?_)))))
      simp only [if_true, bne_self_eq_false]
      refine ev_shift ?_
      simp only [laws_FnExactCompareClock.j0, Bool.false_eq_true, if_false]
      refine Ev.bind ta (Ev.bind (ea a (by omega)) ?_)
      simp only [if_true]
      refine Ev.bind tb (Ev.bind (ea b (by omega)) ?_)
      simp only [if_true]
      exact ev_some _

end Go.Proofs.Ytjbaakfamepbeaa.Pure
