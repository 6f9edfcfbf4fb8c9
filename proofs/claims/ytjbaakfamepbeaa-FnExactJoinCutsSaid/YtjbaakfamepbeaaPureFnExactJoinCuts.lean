/- The pure statement of the law FnExactJoinCuts: at every two lists and either sign the printed law answers true. -/
import Derived.Test.YtjbaakfamepbeaaSayFnExactJoinCuts
import Derived.Test.YtjbaakfamepbeaaAid
namespace Go.Proofs.Ytjbaakfamepbeaa.Pure
open Go.RowKit Go.Proofs.Ytjbaakfamepbeaa.PFnExactJoinCuts Go.Proofs.YtjbaakfamepbeaaW.PrintWords Go.Proofs.YtjbaakfamepbeaaW.PrintLast Go.Proofs.Ytjbaakfamepbeaa.Aid
set_option linter.unusedVariables false
set_option linter.unusedSimpArgs false

theorem toIntS_ev (l : List Int) (hl : l.length ≤ 1048576) : Ev (fun k => laws_toIntS.f k l) l := by
  have key := fill_loop (fun k xs i => laws_toIntS.l0 k l xs i) l (fun x => x) (fun k xs => by simp [laws_toIntS.l0]) (fun n x xs hx hn hl' H => ?_) 0
  · have e : l.map (fun x => x) = l := by simp
    rw [e] at key
    refine Ev.congr (fun k => ?_) key
    simp only [laws_toIntS.f]
    rw [if_pos (by omega), if_pos (by omega)]
    simp
  · refine Ev.step (fun k => ?_) H
    simp only [laws_toIntS.l0]
    rw [if_pos (by omega), if_pos (by omega), if_pos (by omega), wrap_nat (by omega), rd_nat hx]
    simp
theorem eqIntS_ev (l : List Int) (hl : l.length ≤ 140737488355328) : Ev (fun k => laws_eqIntS.f k l l) true := by
  have key := eq_loop (fun k i => laws_eqIntS.l0 k l l i) l l (fun x y => decide (x = y)) rfl (fun k => by simp [laws_eqIntS.l0]) (fun n x y r hx hy hn _ he H => ?_) (fun n x y hx hy hn _ he => ?_)
  · rw [zip_self_all (fun x y : Int => decide (x = y)) (by simp) l] at key
    refine Ev.congr (fun k => ?_) key
    simp [laws_eqIntS.f]
  · refine Ev.step (fun k => ?_) H
    simp only [laws_eqIntS.l0]
    rw [if_pos (by omega), if_pos (by omega), if_pos (by omega), wrap_nat (by omega)]
    simp
  · rw [hx] at hy
    obtain rfl := Option.some.inj hy
    simp at he

theorem markIntS_ev (l : List Int) (m : Int) (h0 : 0 ≤ m) (hb : m + l.length ≤ 4611686018427387904) : Ev (fun k => laws_markIntS.f k l m) (m + l.length, upFrom m l.length) := by
  have key : ∀ n, n ≤ l.length → ∀ xs : List Int, xs.length = l.length → (∀ j, j < n → xs[j]? = (upFrom m l.length)[j]?) → Ev (fun k => laws_markIntS.l0 k xs (m + n) (n : Int)) (m + l.length, upFrom m l.length) := by
    intro n hn
    induction hd : l.length - n generalizing n with
    | zero =>
      intro xs hx hj
      have e : n = l.length := by omega
      subst e
      have : xs = upFrom m l.length := by
        apply List.ext_getElem?
        intro j
        by_cases h : j < l.length
        · exact hj j h
        · rw [List.getElem?_eq_none (by omega), List.getElem?_eq_none (by rw [upFrom_length]; omega)]
      subst this
      refine Ev.step (fun k => ?_) (ev_some _)
      simp only [laws_markIntS.l0]
      rw [if_neg (by omega)]
    | succ d ih =>
      intro xs hx hj
      refine Ev.step (fun k => ?_) (ih (n + 1) (by omega) (by omega) (xs.set n (m + n)) (by simpa using hx) (fun j hjn => ?_))
      · simp only [laws_markIntS.l0]
        rw [if_pos (by omega), if_pos (by omega), wrap_nat (by omega), wrap_of (by omega) (by omega)]
        simp [Int.add_assoc]
      · by_cases h : j = n
        · subst h
          rw [List.getElem?_set_self (by omega), upFrom_get _ _ _ (by omega)]
        · rw [List.getElem?_set_ne (by omega)]
          exact hj j (by omega)
  have := key 0 (by omega) l rfl (fun j hj => by omega)
  simpa [laws_markIntS.f] using this
theorem heldIntS_ev (m : Int) (n : Nat) (h0 : 0 ≤ m) (hb : m + n ≤ 4611686018427387904) : Ev (fun k => laws_heldIntS.f k (upFrom m n) m) (m + n) := by
  have key : ∀ d i, i + d = n → Ev (fun k => laws_heldIntS.l0 k (upFrom m n) (m + i) (i : Int)) (m + n) := by
    intro d
    induction d with
    | zero =>
      intro i hi
      obtain rfl : i = n := by omega
      refine Ev.step (fun k => ?_) (ev_some _)
      simp only [laws_heldIntS.l0]
      rw [upFrom_length, if_neg (by omega)]
    | succ d ih =>
      intro i hi
      refine Ev.step (fun k => ?_) (ih (i + 1) (by omega))
      simp only [laws_heldIntS.l0]
      rw [upFrom_length, if_pos (by omega), if_pos (by omega), rd_nat (upFrom_get n m i (by omega)), if_pos rfl, wrap_nat (by omega), wrap_of (by omega) (by omega)]
      simp [Int.add_assoc]
  have := key n 0 (by omega)
  simpa [laws_heldIntS.f] using this

abbrev RL := List Int × Bool
def neg (l : List Int) : Bool := l.any fun x => decide (x < 0)
theorem contains_ev (l : List Int) (hl : l.length ≤ 1048576) : Ev (fun k => slices_ContainsFunc_int_int_h70.f k l) (neg l) := by
  obtain ⟨r, h1, h2⟩ := idx_loop (fun k i => slices_IndexFunc_int_int_h70.l0 k l (l.length : Int) i) l (fun x => decide (x < 0)) (fun k => by simp only [slices_IndexFunc_int_int_h70.l0]; rw [if_neg (by omega)])
    (fun n x hx hn hp => ev_shift (by
      simp only [slices_IndexFunc_int_int_h70.l0, impl_JoinCuts_1.f, Option.bind_some, rd_nat hx, hp, if_true]
      refine ev_if_pos (by omega) (ev_if_pos (by omega) (ev_if_pos (by omega) (ev_some _)))))
    (fun n x r hx hn hp H => ev_shift (by
      simp only [slices_IndexFunc_int_int_h70.l0, impl_JoinCuts_1.f, Option.bind_some, rd_nat hx, hp, Bool.false_eq_true, if_false, wrap_nat (show n < 9223372036854775807 by omega)]
      refine ev_if_pos (by omega) (ev_if_pos (by omega) (ev_if_pos (by omega) H))))
  unfold slices_ContainsFunc_int_int_h70.f slices_IndexFunc_int_int_h70.f
  refine Ev.bind h1 ?_
  simp only [h2]
  exact ev_some _
def pick (m : Bool) (x y : Int) : Int := if (decide (x < y) == m) = true then x else y
theorem pick_true (x y : Int) : pick true x y = mn x y := by
  unfold pick mn
  by_cases h : x < y <;> simp [h] <;> omega
theorem pick_false (x y : Int) : pick false x y = mx x y := by
  unfold pick mx
  by_cases h : x < y <;> simp [h]
theorem take_snoc {α : Type} {l : List α} {n : Nat} {x : α} (h : l[n]? = some x) : l.take (n + 1) = l.take n ++ [x] := by
  obtain ⟨hn, rfl⟩ := List.getElem?_eq_some_iff.1 h
  exact List.take_succ_eq_append_getElem hn
/-- What the spec answers for two lists of one length. -/
def joined (a b : List Int) (m : Bool) : RL := if neg a || neg b then ([], false) else ((a.zip b).map fun p => pick m p.1 p.2, true)
theorem neg_of_mem {l : List Int} {n : Nat} {x : Int} (h : l[n]? = some x) (hx : x < 0) : neg l = true := by
  simp only [neg, List.any_eq_true]
  exact ⟨x, List.mem_of_getElem? h, by simpa using hx⟩
theorem zip_get {a b : List Int} {n : Nat} {x y : Int} (ha : a[n]? = some x) (hb : b[n]? = some y) : (a.zip b)[n]? = some (x, y) := by
  rw [List.getElem?_zip_eq_some]; exact ⟨ha, hb⟩
theorem spec_loop (a b : List Int) (m : Bool) (h : a.length = b.length) (hl : a.length ≤ 6) : Ev (fun k => spec_JoinCuts.l0 k a b m [] (a.length : Int) 0) (joined a b m) := by
  have key : ∀ n, n ≤ a.length → (neg (a.take n) = false) → (neg (b.take n) = false) → Ev (fun k => spec_JoinCuts.l0 k a b m (((a.zip b).map fun p => pick m p.1 p.2).take n) (a.length : Int) (n : Int)) (joined a b m) := by
    intro n hn
    induction hd : a.length - n generalizing n with
    | zero =>
      intro h1 h2
      have e : n = a.length := by omega
      subst e
      rw [List.take_of_length_le (by omega)] at h1
      rw [List.take_of_length_le (by omega)] at h2
      rw [List.take_of_length_le (by simp; omega)]
      refine ev_last (fun k => ?_)
      simp only [spec_JoinCuts.l0]
      rw [if_neg (by omega)]
      simp [joined, h1, h2]
    | succ d ih =>
      intro h1 h2
      have hlt : n < a.length := by omega
      have hx : a[n]? = some a[n] := List.getElem?_eq_getElem hlt
      have hy : b[n]? = some (b[n]'(by omega)) := List.getElem?_eq_getElem (by omega)
      generalize a[n] = x at hx
      generalize (b[n]'(by omega)) = y at hy
      refine ev_shift ?_
      simp only [spec_JoinCuts.l0, rd_nat hx, rd_nat hy]
      refine ev_if_pos (by omega) (ev_if_pos (by omega) (ev_if_pos (by omega) ?_))
      by_cases hx0 : x < 0
      · refine ev_if_pos hx0 (ev_shift ?_)
        simp only [spec_JoinCuts.j2, if_true]
        simp only [joined, neg_of_mem hx hx0, Bool.true_or, if_true]
        exact ev_some _
      · refine ev_if_neg hx0 (ev_if_pos (by omega) (ev_shift ?_))
        by_cases hy0 : y < 0
        · simp only [spec_JoinCuts.j2, hy0, decide_true, if_true]
          simp only [joined, neg_of_mem hy hy0, Bool.or_true, if_true]
          exact ev_some _
        · simp only [spec_JoinCuts.j2, hy0, decide_false, Bool.false_eq_true, if_false, rd_nat hx, rd_nat hy, wrap_nat (show n < 9223372036854775807 by omega)]
          have ht : ((a.zip b).map fun p => pick m p.1 p.2).take (n + 1) = ((a.zip b).map fun p => pick m p.1 p.2).take n ++ [pick m x y] := take_snoc (by simp [zip_get hx hy])
          have hlen : (((a.zip b).map fun p => pick m p.1 p.2).take n).length < 17592186044416 := by simp; omega
          have g1 : neg (a.take (n + 1)) = false := by rw [take_snoc hx]; unfold neg at h1 ⊢; rw [List.any_append, h1]; simpa using hx0
          have g2 : neg (b.take (n + 1)) = false := by rw [take_snoc hy]; unfold neg at h2 ⊢; rw [List.any_append, h2]; simpa using hy0
          have H := ih (n + 1) (by omega) (by omega) g1 g2
          rw [ht] at H
          refine ev_if_pos (by omega) (ev_if_pos (by omega) (ev_if_pos (by omega) ?_))
          unfold pick at H ⊢
          by_cases hp : (decide (x < y) == m) = true
          · simp only [if_pos hp] at H ⊢
            exact ev_if_pos hlen H
          · simp only [if_neg hp] at H ⊢
            exact ev_if_pos hlen H
  have := key 0 (by omega) (by simp [neg]) (by simp [neg])
  simpa using this
theorem greater_ev (a b : List Int) (h : a.length = b.length) (hl : a.length ≤ 6) : Ev (fun k => impl_greater.f k a b) ((a.zip b).map fun p => pick false p.1 p.2) := by
  have key : ∀ n, n ≤ a.length → Ev (fun k => impl_greater.l0 k b (((a.zip b).map fun p => pick false p.1 p.2).take n) a (a.length : Int) (n : Int)) ((a.zip b).map fun p => pick false p.1 p.2) := by
    intro n hn
    induction hd : a.length - n generalizing n with
    | zero =>
      have e : n = a.length := by omega
      subst e
      rw [List.take_of_length_le (by simp; omega)]
      refine ev_last (fun k => ?_)
      simp only [impl_greater.l0]
      rw [if_neg (by omega)]
    | succ d ih =>
      have hlt : n < a.length := by omega
      have hx : a[n]? = some a[n] := List.getElem?_eq_getElem hlt
      have hy : b[n]? = some (b[n]'(by omega)) := List.getElem?_eq_getElem (by omega)
      generalize a[n] = x at hx
      generalize (b[n]'(by omega)) = y at hy
      have ht : ((a.zip b).map fun p => pick false p.1 p.2).take (n + 1) = ((a.zip b).map fun p => pick false p.1 p.2).take n ++ [pick false x y] := take_snoc (by simp [zip_get hx hy])
      have hlen : (((a.zip b).map fun p => pick false p.1 p.2).take n).length < 17592186044416 := by simp; omega
      have H := ih (n + 1) (by omega) (by omega)
      rw [ht, pick_false] at H
      refine ev_shift ?_
      simp only [impl_greater.l0, rd_nat hx, rd_nat hy, wrap_nat (show n < 9223372036854775807 by omega)]
      exact ev_if_pos (by omega) (ev_if_pos (by omega) (ev_if_pos (by omega) (ev_if_pos (by omega) (ev_if_pos hlen H))))
  have := key 0 (by omega)
  simpa [impl_greater.f] using this
theorem lesser_ev (a b : List Int) (h : a.length = b.length) (hl : a.length ≤ 6) : Ev (fun k => impl_JoinCuts.l0 k b [] a (a.length : Int) 0) ((a.zip b).map fun p => pick true p.1 p.2, true) := by
  have key : ∀ n, n ≤ a.length → Ev (fun k => impl_JoinCuts.l0 k b (((a.zip b).map fun p => pick true p.1 p.2).take n) a (a.length : Int) (n : Int)) ((a.zip b).map fun p => pick true p.1 p.2, true) := by
    intro n hn
    induction hd : a.length - n generalizing n with
    | zero =>
      have e : n = a.length := by omega
      subst e
      rw [List.take_of_length_le (by simp; omega)]
      refine ev_last (fun k => ?_)
      simp only [impl_JoinCuts.l0]
      rw [if_neg (by omega)]
    | succ d ih =>
      have hlt : n < a.length := by omega
      have hx : a[n]? = some a[n] := List.getElem?_eq_getElem hlt
      have hy : b[n]? = some (b[n]'(by omega)) := List.getElem?_eq_getElem (by omega)
      generalize a[n] = x at hx
      generalize (b[n]'(by omega)) = y at hy
      have ht : ((a.zip b).map fun p => pick true p.1 p.2).take (n + 1) = ((a.zip b).map fun p => pick true p.1 p.2).take n ++ [pick true x y] := take_snoc (by simp [zip_get hx hy])
      have hlen : (((a.zip b).map fun p => pick true p.1 p.2).take n).length < 17592186044416 := by simp; omega
      have H := ih (n + 1) (by omega) (by omega)
      rw [ht, pick_true] at H
      refine ev_shift ?_
      simp only [impl_JoinCuts.l0, rd_nat hx, rd_nat hy, wrap_nat (show n < 9223372036854775807 by omega)]
      exact ev_if_pos (by omega) (ev_if_pos (by omega) (ev_if_pos (by omega) (ev_if_pos (by omega) (ev_if_pos hlen H))))
  have := key 0 (by omega)
  simpa using this
def answer (a b : List Int) (m : Bool) : RL := if a.length = 6 ∧ b.length = 6 then joined a b m else ([], false)
theorem answer_len (a b : List Int) (m : Bool) : (answer a b m).1.length ≤ 6 := by
  unfold answer
  split
  · rename_i h
    unfold joined
    split
    · simp
    · simp; omega
  · simp
theorem spec_ev (a b : List Int) (m : Bool) : Ev (fun k => spec_JoinCuts.f k a b m) (answer a b m) := by
  unfold spec_JoinCuts.f answer
  by_cases h1 : a.length = 6
  · simp only [show (a.length : Int) = 6 by omega, if_true, h1, true_and]
    by_cases h2 : b.length = 6
    · simp only [show (b.length : Int) = 6 by omega, h2, if_true]
      refine ev_shift ?_
      simp only [spec_JoinCuts.j0]
      simpa using spec_loop a b m (by omega) (by omega)
    · simp only [h2, if_false]
      refine ev_last (fun k => ?_)
      have : ((b.length : Int) != 6) = true := by simp; omega
      simp only [spec_JoinCuts.j0, this]
      simp
  · simp only [if_neg (show ¬ (a.length : Int) = 6 by omega), h1, false_and, if_false]
    refine ev_last (fun k => ?_)
    simp only [spec_JoinCuts.j0, if_true]
theorem impl_ev (a b : List Int) (m : Bool) : Ev (fun k => impl_JoinCuts.f k a b m) (answer a b m) := by
  have hno : Ev (fun k => impl_JoinCuts.j0 k a b m true) ([], false) := ev_last (fun k => by simp only [impl_JoinCuts.j0, if_true])
  unfold impl_JoinCuts.f answer
  by_cases h1 : a.length = 6
  · simp only [show (a.length : Int) = 6 by omega, if_true, h1, true_and]
    by_cases h2 : b.length = 6
    · simp only [show (b.length : Int) = 6 by omega, h2, if_true]
      refine Ev.bind (contains_ev a (by omega)) ?_
      cases hn : neg a with
      | true => simpa [joined, hn] using hno
      | false =>
        simp only [Bool.false_eq_true, if_false]
        refine Ev.bind (contains_ev b (by omega)) ?_
        cases hn2 : neg b with
        | true => simpa [joined, hn2] using hno
        | false =>
          refine ev_shift ?_
          simp only [impl_JoinCuts.j0, Bool.false_eq_true, if_false, joined, hn, hn2, Bool.or_self]
          cases m with
          | true => simpa using lesser_ev a b (by omega) (by omega)
          | false =>
            simp only [Bool.false_eq_true, if_false]
            exact Ev.bind (greater_ev a b (by omega) (by omega)) (ev_some _)
    · simp only [if_neg (show ¬ (b.length : Int) = 6 by omega), h2, if_false]; exact hno
  · simp only [if_neg (show ¬ (a.length : Int) = 6 by omega), h1, false_and, if_false]; exact hno
theorem FnExactJoinCuts : laws_FnExactJoinCuts.Pure := by
  intro a b m ha _ hb _
  apply Ev.rounds
  unfold laws_FnExactJoinCuts.f
  by_cases h1 : (a.length : Int) > 1048576
  · simp only [if_pos h1]; exact ev_some _
  · by_cases h2 : (b.length : Int) > 1048576
    · simp only [if_neg h1, if_pos h2]; exact ev_some _
    · simp only [if_neg h1, if_neg h2]
      have ta := toIntS_ev a (by omega)
      have tb := toIntS_ev b (by omega)
      have la := answer_len a b m
      have eq := eqIntS_ev (answer a b m).1 (by omega)
      have mk := markIntS_ev (answer a b m).1 1 (by omega) (by omega)
      have hd := heldIntS_ev 1 (answer a b m).1.length (by omega) (by omega)
      refine Ev.bind ta (Ev.bind tb (Ev.bind (spec_ev a b m) (Ev.bind ta (Ev.bind tb (Ev.bind (impl_ev a b m) (Ev.bind eq ?_))))))
      simp only [if_true, bne_self_eq_false]
      refine ev_shift ?_
      simp only [laws_FnExactJoinCuts.j0, Bool.false_eq_true, if_false]
      refine Ev.bind ta (Ev.bind (eqIntS_ev a (by omega)) ?_)
      simp only [if_true]
      refine Ev.bind tb (Ev.bind (eqIntS_ev b (by omega)) ?_)
      simp only [if_true]
      refine Ev.bind (markIntS_ev a 1 (by omega) (by omega)) (Ev.bind (markIntS_ev b (1 + a.length) (by omega) (by omega)) (ev_if_neg (by simp only; omega) (Ev.bind eq ?_)))
      simp only [if_true, bne_self_eq_false]
      refine ev_shift ?_
      simp only [laws_FnExactJoinCuts.j1, Bool.false_eq_true, if_false]
      refine Ev.bind mk (Ev.bind hd (ev_if_neg (by omega) (ev_if_pos rfl ?_)))
      refine Ev.bind ta (Ev.bind tb (Ev.bind (impl_ev a b m) (Ev.bind eq ?_)))
      simp only [if_true, bne_self_eq_false]
      refine ev_shift ?_
      simp only [laws_FnExactJoinCuts.j2, Bool.false_eq_true, if_false]
      refine Ev.bind hd (ev_if_neg (by omega) (ev_if_pos rfl (ev_some _)))

end Go.Proofs.Ytjbaakfamepbeaa.Pure
