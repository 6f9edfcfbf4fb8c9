/- What the law's functions give: the pure part. -/
import Derived.Test.YtjbaakfamepbeaaFmAid
import Derived.Test.YtjbaakfamepbeaaFmOpn
import Derived.Test.YtjbaakfamepbeaaFmXFnExactMergeClockEq
set_option autoImplicit true
set_option maxRecDepth 100000
set_option linter.unusedVariables false
set_option linter.unusedSimpArgs false
set_option linter.unnecessarySimpa false
set_option linter.unusedSectionVars false
open Go Go.Fm Go.RowKit
namespace Go.Proofs.Ytjbaakfamepbeaa.Fms
/-! ### base -/
theorem l1In_ev (n lo hi : Int) : Ev (fun k => spec_l1In k n lo hi) (decide (lo ≤ n ∧ n ≤ hi)) := ev_congr (fun k => by rw [spec_l1In_eq]) (by by_cases h : lo ≤ n <;> simp [ev_some_iff, h])

/-! ### int -/
theorem toIntS_ev (l) (hl : l.length ≤ 1048576) : Ev (fun k => laws_toIntS k l) l := by
  refine ev_congr (fun k => laws_toIntS_eq k l) ?_
  simp only [ev_ite_iff]
  rw [if_pos trivial, if_pos (by omega)]
  simpa using to_row0 (e := .int .i64) (l := l) (z := _) (fun k l r i => laws_toIntS_h3_eq k l r i) (by omega)
theorem eqIntS_ev (l) (hl : l.length ≤ 140737488355328) : Ev (fun k => laws_eqIntS k l l) true := by
  refine ev_congr (fun k => laws_eqIntS_eq k l l) ?_
  simp only [ev_ite_iff]
  rw [if_neg (by simp)]
  exact eq_row0 (e := .int .i64) (l := l) (c := fun x y => x = y) (fun k a b i => laws_eqIntS_h4_eq k a b i) (fun x => rfl) (by omega)

/-! ### allloop -/
/-! a loop that asks the same of each -/
def allFrom {α : Type} (p : Nat → α → Bool) : Nat → List α → Bool
  | _, [] => true
  | n, x :: l => p n x && allFrom p (n + 1) l
theorem allFrom_iff {α : Type} {p : Nat → α → Bool} : ∀ {l : List α} {n : Nat}, allFrom p n l = true ↔ ∀ i x, l[i]? = some x → p (n + i) x = true
  | [], n => by simp [allFrom]
  | x :: l, n => by
    simp only [allFrom, Bool.and_eq_true, allFrom_iff (l := l)]
    constructor
    · rintro ⟨h1, h2⟩ i y hy
      cases i with
      | zero => simp at hy; subst hy; exact h1
      | succ i => rw [show n + (i + 1) = n + 1 + i by omega]; exact h2 i y (by simpa using hy)
    · intro h
      refine ⟨h 0 x (by simp), fun i y hy => ?_⟩
      rw [show n + 1 + i = n + (i + 1) by omega]
      exact h (i + 1) y (by simpa using hy)
theorem all_loop {α : Type} (xs : List α) (H : Nat → Int → Option Bool) (p : Nat → α → Bool) (r : Bool) (hend : Ev (fun k => H k (xs.length : Int)) r)
    (hstep : ∀ n x v, n < xs.length → xs[n]? = some x → Ev (fun k => H k ((n + 1 : Nat) : Int)) v → Ev (fun k => H (k + 1) (n : Int)) (p n x && v)) : Ev (fun k => H k 0) (allFrom p 0 xs && r) := by
  have := drop_ind0 xs (fun n rest => Ev (fun k => H k (n : Int)) (allFrom p n rest && r)) (by simpa [allFrom] using hend) (fun n x rest hn hx _ ih => ?_)
  · simpa using this
  · refine ev_shift ?_
    have h := hstep n x _ hn hx ih
    rw [← Bool.and_assoc] at h
    exact h

/-! ### inn -/
theorem in_ev (n lo hi : Int) : Ev (fun k => impl_in k n lo hi) (decide (lo ≤ n ∧ n ≤ hi)) := ev_congr (fun k => by rw [impl_in_eq]) (by by_cases h : lo ≤ n <;> simp [ev_some_iff, h])

/-! ### markint -/
theorem markIntS_ev (l : List Int) (m : Int) (h0 : 0 ≤ m) (hm : m + l.length ≤ 1073741824) : Ev (fun k => laws_markIntS k l m) (mkList (fun k => k) m 1 l.length, m + 1 * (l.length : Int)) := by
  refine ev_congr (fun k => laws_markIntS_eq k l m) ?_
  refine mark_loop (fun k l c i => laws_markIntS_h2 k l c i) (fun k => k) m 1 l.length (fun k xs c hx => ?_) (fun n xs r hn hx H => ?_) l rfl
  · rw [laws_markIntS_h2_eq, if_neg (by omega)]
  · refine ev_shift ?_
    simp only [laws_markIntS_h2_eq, ev_ite_iff, Int.toNat_natCast, wrap_nat (show n < 9223372036854775807 by omega), wrap_of (x := m + 1 * (n : Int) + 1) (by omega) (by omega)]
    rw [if_pos (by omega), if_pos (by omega), if_pos (by omega)]
    rw [show m + 1 * (n : Int) + 1 = m + 1 * ((n + 1 : Nat) : Int) by omega]
    exact H

/-! ### heldint -/
theorem heldIntS_ev (m : Int) (N : Nat) (h0 : 0 ≤ m) (hm : m + N ≤ 1073741824) : Ev (fun k => laws_heldIntS k (mkList (fun k => k) m 1 N) m) (m + 1 * (N : Int)) := by
  refine ev_congr (fun k => laws_heldIntS_eq k _ m) ?_
  have hl := mkList_len (fun k : Int => k) m 1 N
  refine held_loop (fun k c i => laws_heldIntS_h2 k (mkList (fun k => k) m 1 N) c i) (fun k => k) m 1 N (fun k c => ?_) (fun n r hn hx H => ?_)
  · rw [laws_heldIntS_h2_eq, if_neg (by omega)]
  · refine ev_shift ?_
    simp only [laws_heldIntS_h2_eq, ev_ite_iff, rdT_get (e := .int .i64) hx, wrap_nat (show n < 9223372036854775807 by omega), wrap_of (x := m + 1 * (n : Int) + 1) (by omega) (by omega)]
    rw [if_pos (by omega), if_pos (by omega), if_pos (by omega), if_neg (by simp)]
    rw [show m + 1 * (n : Int) + 1 = m + 1 * ((n + 1 : Nat) : Int) by omega]
    exact H

/-! ### clockmerge -/
abbrev ClT := List Int
abbrev ClK : Kind := .struct (.slice (.int .i64))
def mx (x y : Int) : Int := if x < y then y else x
def mer (a b : ClT) : ClT := List.zipWith mx a b
theorem mer_len {a b : ClT} (h : a.length = 6) (h' : b.length = 6) : (mer a b).length = 6 := by simp [mer, h, h']
theorem mer_get {a b : ClT} {n : Nat} {x y : Int} (hx : a[n]? = some x) (hy : b[n]? = some y) : (mer a b)[n]? = some (mx x y) := by simp [mer, List.getElem?_zipWith, hx, hy]
theorem merge_ev (a b : ClT) (ha : a.length = 6) (hb : b.length = 6) : Ev (fun k => spec_l2Merge k a b) (mer a b) := by
  refine ev_congr (fun k => spec_l2Merge_eq k a b) (ev_if_pos (by omega) ?_)
  have hml := mer_len ha hb
  have key := up_ind b.length (fun n => Ev (fun k => spec_l2Merge_h3 k ((mer a b).take n ++ a.drop n) b (b.length : Int) (n : Int)) (mer a b)) ?_ ?_ 0 (by omega)
  · simpa using key
  · refine ev_last fun k => ?_
    rw [spec_l2Merge_h3_eq, if_neg (by omega), List.take_of_length_le (by omega), List.drop_eq_nil_of_le (by omega), List.append_nil]
  · intro n hn ih
    have hy : b[n]? = some b[n] := List.getElem?_eq_getElem hn
    have hx : a[n]? = some (a[n]'(by omega)) := List.getElem?_eq_getElem (by omega)
    generalize b[n] = y at hy
    generalize a[n]'(by omega) = x at hx
    have hm := mer_get hx hy
    have hdr : a.drop n = x :: a.drop (n + 1) := by
      rw [List.drop_eq_getElem_cons (by omega)]
      congr 1
      rw [List.getElem?_eq_getElem (by omega)] at hx
      exact Option.some.inj hx
    have hlen : ((mer a b).take n ++ a.drop n).length = 6 := by rw [List.length_append, List.length_take, List.length_drop]; omega
    have hget : ((mer a b).take n ++ a.drop n)[n]? = some x := by
      rw [List.getElem?_append_right (by rw [List.length_take]; omega), List.length_take, show n - min n (mer a b).length = 0 by omega, hdr]; rfl
    have hnext : (mer a b).take (n + 1) ++ a.drop (n + 1) = ((mer a b).take n ++ a.drop n).set n (mx x y) := by
      rw [take_snoc hm, hdr, List.set_append_right _ _ (by rw [List.length_take]; omega), List.length_take, show n - min n (mer a b).length = 0 by omega, List.set_cons_zero, List.append_assoc]; rfl
    have d1 : (n : Int) < (b.length : Int) := by omega
    have d2 : (0 : Int) ≤ (n : Int) := by omega
    have d3 : (n : Int) < ((((mer a b).take n ++ a.drop n).length : Nat) : Int) := by omega
    rw [hnext] at ih
    generalize (mer a b).take n ++ a.drop n = cur at hget ih d3
    refine ev_shift ?_
    simp only [spec_l2Merge_h3_eq, ev_ite_iff, ev_none_iff, rdT_get (e := .int .i64) hy, rdT_get (e := .int .i64) hget, wrap_nat (show n < 9223372036854775807 by omega), Int.toNat_natCast]
    rw [if_pos d1, if_pos d2, if_pos d1, if_pos d2, if_pos d3]
    by_cases hlt : x < y
    · rw [if_pos hlt, if_pos d2, if_pos d3]
      rw [mx, if_pos hlt] at ih
      exact ih
    · rw [if_neg hlt]
      rw [mx, if_neg hlt] at ih
      have : cur.set n x = cur := by
        apply List.ext_getElem?
        intro j
        by_cases hj : j = n
        · subst hj
          rw [List.getElem?_set_self ((List.getElem?_eq_some_iff.1 hget).1), hget]
        · rw [List.getElem?_set_ne (Ne.symm hj)]
      rw [this] at ih
      exact ih
theorem greater_ev (a b : ClT) (ha : a.length = 6) (hb : b.length = 6) : Ev (fun k => impl_greater k a b) (mer a b) := by
  refine ev_congr (fun k => impl_greater_eq k a b) ?_
  have hml := mer_len ha hb
  have key := up_ind a.length (fun n => Ev (fun k => impl_greater_h3 k b ((mer a b).take n) a (a.length : Int) (n : Int)) (mer a b)) ?_ ?_ 0 (by omega)
  · simpa using key
  · refine ev_last fun k => ?_
    rw [impl_greater_h3_eq, if_neg (by omega), List.take_of_length_le (by omega)]
  · intro n hn ih
    have hx : a[n]? = some a[n] := List.getElem?_eq_getElem hn
    have hy : b[n]? = some (b[n]'(by omega)) := List.getElem?_eq_getElem (by omega)
    generalize a[n] = x at hx
    generalize b[n]'(by omega) = y at hy
    have hm := mer_get hx hy
    rw [take_snoc hm] at ih
    have d1 : (n : Int) < (a.length : Int) := by omega
    have d2 : (0 : Int) ≤ (n : Int) := by omega
    have d3 : (n : Int) < (b.length : Int) := by omega
    have hl : ((mer a b).take n).length ≤ 6 := by rw [List.length_take]; omega
    generalize (mer a b).take n = cur at ih hl
    refine ev_shift ?_
    simp only [impl_greater_h3_eq, ev_ite_iff, ev_none_iff, rdT_get (e := .int .i64) hx, rdT_get (e := .int .i64) hy, wrap_nat (show n < 9223372036854775807 by omega)]
    rw [if_pos d1, if_pos d2, if_pos d1, if_pos d2, if_pos d3, if_pos (by simp; omega)]
    exact ih

/-! ### mergeclock -/
/-! MergeClock -/
def compB (n : Int) : Bool := decide (0 ≤ n ∧ n ≤ 1000000)
def clockB (l : ClT) : Bool := decide (l.length = 6) && l.all compB
theorem idx_nonneg {α : Type} (p : α → Bool) : ∀ (l : List α) (n : Nat), decide (0 ≤ idxFrom p n l) = l.any p
  | [], n => rfl
  | x :: l, n => by
    rw [List.any_cons, ← idx_nonneg p l (n + 1), idxFrom]
    by_cases h : p x = true <;> simp [h]
theorem l2Clock_ev (l : ClT) (hl : l.length ≤ 1048576) : Ev (fun k => spec_l2Clock k l) (clockB l) := by
  refine ev_congr (fun k => spec_l2Clock_eq k l) ?_
  have key := drop_ind0 (α := Int) l (fun n rest => Ev (fun k => spec_l2Clock_h2 k l l (l.length : Int) (n : Int)) (decide (l.length = 6) && rest.all compB)) ?_ ?_
  · exact key
  · refine ev_last fun k => ?_
    rw [spec_l2Clock_h2_eq, if_neg (by omega)]
    simp only [List.all_nil, Bool.and_true, Option.some.injEq]
    exact decide_eq_decide.2 (by omega)
  · intro n x rest hn hx hd ih
    have d1 : (n : Int) < (l.length : Int) := by omega
    have d2 : (0 : Int) ≤ (n : Int) := by omega
    refine ev_shift ?_
    simp only [spec_l2Clock_h2_eq, ev_ite_iff, rdT_get (e := .int .i64) hx, ev_bind_iff (l1In_ev x 0 1000000), wrap_nat (show n < 9223372036854775807 by omega), if_pos d1, if_pos d2]
    have hb : decide (0 ≤ x ∧ x ≤ 1000000) = compB x := rfl
    rw [hb]
    cases hc : compB x with
    | false => rw [if_pos (by simp)]; simp [List.all_cons, hc, ev_some_iff]
    | true => rw [if_neg (by simp)]; simpa [List.all_cons, hc] using ih
theorem isClock1_ev (n : Int) : Ev (fun k => impl_isClock_1 k n) (!compB n) := ev_congr (fun k => impl_isClock_1_eq k n) (ev_bind (in_ev n 0 1000000) (ev_some _))
theorem badComp_ev (l : ClT) (hl : l.length ≤ 1048576) : Ev (fun k => slices_ContainsFunc k l ()) (l.any fun x => !compB x) := by
  have key := drop_ind0 (α := Int) l (fun n rest => Ev (fun k => slices_IndexFunc_h2 k l () (l.length : Int) (n : Int)) (idxFrom (fun x => !compB x) n rest)) ?_ ?_
  · refine ev_congr (fun k => slices_ContainsFunc_eq k l _) ?_
    simp only [ev_bind_iff (ev_congr (fun k => slices_IndexFunc_eq k l ()) key), ev_some_iff, idx_nonneg]
  · exact ev_last fun k => by rw [slices_IndexFunc_h2_eq, if_neg (by omega)]; rfl
  · intro n x rest hn hx hd ih
    have d1 : (n : Int) < (l.length : Int) := by omega
    have d2 : (0 : Int) ≤ (n : Int) := by omega
    refine ev_shift ?_
    simp only [slices_IndexFunc_h2_eq, ev_bind_iff (isClock1_ev x), rdT_get (e := .int .i64) hx, wrap_nat (show n < 9223372036854775807 by omega), ev_ite_iff, if_pos d1, if_pos d2]
    cases hc : compB x with
    | false => simp [idxFrom, hc, ev_some_iff]
    | true => simpa [idxFrom, hc] using ih
theorem isClock_ev (l : ClT) (hl : l.length ≤ 1048576) : Ev (fun k => impl_isClock k l) (clockB l) := by
  refine ev_congr (fun k => impl_isClock_eq k l) ?_
  by_cases h6 : l.length = 6
  · refine ev_if_pos (by omega) ?_
    have : clockB l = !(l.any fun x => !compB x) := by
      simp only [clockB, h6, decide_true, Bool.true_and]
      rw [List.not_any_eq_all_not]
      simp
    rw [this]
    exact ev_bind (badComp_ev l hl) (ev_some _)
  · have : clockB l = false := by simp [clockB, h6]
    rw [this]
    exact ev_if_neg (by omega) (ev_some _)
theorem mergeClock_ev (a b : ClT) (ha : a.length ≤ 1048576) (hb : b.length ≤ 1048576) : ∃ r : ClT × Bool, Ev (fun k => spec_MergeClock k a b) r ∧ Ev (fun k => impl_MergeClock k a b) r ∧ r.1.length ≤ 6 := by
  have s1 := l2Clock_ev a ha
  have s2 := l2Clock_ev b hb
  have i1 := isClock_ev a ha
  have i2 := isClock_ev b hb
  cases h1 : clockB a with
  | false =>
    rw [h1] at s1 i1
    exact ⟨([], false), ev_congr (fun k => spec_MergeClock_eq k a b) (ev_bind s1 (ev_if_pos (by simp) (ev_some _))), ev_congr (fun k => impl_MergeClock_eq k a b) (ev_bind i1 (ev_if_pos (by simp) (ev_some _))), by simp⟩
  | true =>
    rw [h1] at s1 i1
    cases h2 : clockB b with
    | false =>
      rw [h2] at s2 i2
      exact ⟨([], false), ev_congr (fun k => spec_MergeClock_eq k a b) (ev_bind s1 (ev_if_neg (by simp) (ev_bind s2 (ev_if_pos (by simp) (ev_some _))))), ev_congr (fun k => impl_MergeClock_eq k a b) (ev_bind i1 (ev_if_neg (by simp) (ev_bind i2 (ev_if_pos (by simp) (ev_some _))))), by simp⟩
    | true =>
      rw [h2] at s2 i2
      have e1 : a.length = 6 := by simp only [clockB, Bool.and_eq_true, decide_eq_true_eq] at h1; exact h1.1
      have e2 : b.length = 6 := by simp only [clockB, Bool.and_eq_true, decide_eq_true_eq] at h2; exact h2.1
      refine ⟨(mer a b, true), ev_congr (fun k => spec_MergeClock_eq k a b) (ev_bind s1 (ev_if_neg (by simp) (ev_bind s2 (ev_if_neg (by simp) (ev_bind (merge_ev a b e1 e2) (ev_some _)))))), ev_congr (fun k => impl_MergeClock_eq k a b) (ev_bind i1 (ev_if_neg (by simp) (ev_bind i2 (ev_if_neg (by simp) (ev_bind (greater_ev a b e1 e2) (ev_some _)))))), ?_⟩
      have := mer_len e1 e2
      simp only; omega
theorem szClock_ev (l : ClT) (hl : l.length ≤ 140737488351232) (a : Int) (h0 : 0 ≤ a) (h1 : a ≤ 1048576) : ∃ v, Ev (fun k => laws_szClock k l a) v ∧ v ≤ a ∧ (0 ≤ v → l.length ≤ 1048576) := by
  have w : wrap64 (a - (l.length : Int)) = a - l.length := wrap_of (by omega) (by omega)
  by_cases h : a - (l.length : Int) < 0
  · exact ⟨-1, ev_congr (fun k => laws_szClock_eq k l a) (ev_bind (ev_congr (fun k => by rw [laws_szIntS_eq, w, if_pos h]) (ev_some _)) (ev_if_pos (by omega) (ev_some _))), by omega, fun h => by omega⟩
  · exact ⟨_, ev_congr (fun k => laws_szClock_eq k l a) (ev_bind (ev_congr (fun k => by rw [laws_szIntS_eq, w, if_neg h]) (ev_some _)) (ev_if_neg h (ev_some _))), by omega, fun _ => by omega⟩
theorem law (a0 : ClT) (a1 : ClT) (h0 : okT ClK a0) (h1 : okT ClK a1) : ∃ k, laws_FnExactMergeClock k a0 a1 = some true := by
  apply ev_fuel
  refine ev_congr (fun k => laws_FnExactMergeClock_eq k a0 a1) ?_
  obtain ⟨v, hv, hle, hB⟩ := szClock_ev a0 h0.1 1048576 (by omega) (by omega)
  refine ev_bind hv ?_
  by_cases hneg : v < 0
  · exact ev_if_pos hneg (ev_some _)
  refine ev_if_neg hneg ?_
  obtain ⟨u, hu, hle2, hB2⟩ := szClock_ev a1 h1.1 v (by omega) (by omega)
  refine ev_bind hu ?_
  by_cases hneg2 : u < 0
  · exact ev_if_pos hneg2 (ev_some _)
  refine ev_if_neg hneg2 ?_
  have l0 := hB (by omega)
  have l1 := hB2 (by omega)
  have to : ∀ l : ClT, l.length ≤ 1048576 → Ev (fun k => laws_toClock k l) l := fun l hl => ev_congr (fun k => laws_toClock_eq k l) (ev_bind (toIntS_ev l hl) (ev_some _))
  have eq : ∀ l : ClT, l.length ≤ 1048576 → Ev (fun k => laws_eqClock k l l) true := fun l hl => ev_congr (fun k => laws_eqClock_eq k l l) (ev_bind (eqIntS_ev l (by omega)) (ev_if_neg (by simp) (ev_some _)))
  have mk : ∀ (l : ClT) (m : Int), 0 ≤ m → m + l.length ≤ 1073741824 → Ev (fun k => laws_markClock k l m) (mkList (fun k => k) m 1 l.length, m + 1 * (l.length : Int)) := fun l m h h' => ev_congr (fun k => laws_markClock_eq k l m) (ev_bind (markIntS_ev l m h h') (ev_some _))
  have hd : ∀ N : Nat, N ≤ 1048576 → Ev (fun k => laws_heldClock k (mkList (fun k => k) 1 1 N) 1) (1 + 1 * (N : Int)) := fun N hN => ev_congr (fun k => laws_heldClock_eq k _ 1) (ev_bind (heldIntS_ev 1 N (by omega) (by omega)) (ev_if_neg (by omega) (ev_some _)))
  obtain ⟨r, b1, b2, hr⟩ := mergeClock_ev a0 a1 l0 l1
  have hd := hd r.1.length (by omega)
  refine ev_bind (to a0 l0) (ev_bind (to a1 l1) (ev_bind b1 (ev_bind (to a0 l0) (ev_bind (to a1 l1) (ev_bind b2 (ev_bind (eq r.1 (by omega)) (ev_if_neg (by simp) (ev_if_neg (by simp) ?_))))))))
  refine ev_bind (to a0 l0) (ev_bind (eq a0 l0) (ev_if_neg (by simp) (ev_bind (to a1 l1) (ev_bind (eq a1 l1) (ev_if_neg (by simp) ?_)))))
  refine ev_bind (mk a0 1 (by omega) (by omega)) (ev_bind (mk a1 _ (by simp only; omega) (by simp only; omega)) (ev_if_neg (by simp only; omega) ?_))
  refine ev_bind (eq r.1 (by omega)) (ev_if_neg (by simp) (ev_if_neg (by simp) ?_))
  refine ev_bind (mk r.1 1 (by omega) (by omega)) (ev_bind hd (ev_if_neg (by omega) (ev_if_neg (by simp) ?_)))
  refine ev_bind (to a0 l0) (ev_bind (to a1 l1) (ev_bind b2 (ev_bind (eq r.1 (by omega)) (ev_if_neg (by simp) (ev_if_neg (by simp) ?_)))))
  exact ev_bind hd (ev_if_neg (by omega) (ev_if_neg (by simp) (ev_some _)))

end Go.Proofs.Ytjbaakfamepbeaa.Fms
