/- What the law's functions give: the pure part. -/
import Derived.Test.YtjckjjpldplckaaDoorFmAid
import Derived.Test.YtjckjjpldplckaaDoorFmOpn
import Derived.Test.YtjckjjpldplckaaDoorFmXFnExactWaitsForEq
set_option autoImplicit true
set_option maxRecDepth 100000
set_option linter.unusedVariables false
set_option linter.unusedSimpArgs false
set_option linter.unnecessarySimpa false
set_option linter.unusedSectionVars false
open Go Go.Fm Go.RowKit
namespace Go.Proofs.YtjckjjpldplckaaDoor.Fms
/-! ### base -/
theorem l1In_ev (n lo hi : Int) : Ev (fun k => spec_l1In k n lo hi) (decide (lo ≤ n ∧ n ≤ hi)) := ev_congr (fun k => by rw [spec_l1In_eq]) (by by_cases h : lo ≤ n <;> simp [ev_some_iff, h])

/-! ### inn -/
theorem in_ev (n lo hi : Int) : Ev (fun k => impl_in k n lo hi) (decide (lo ≤ n ∧ n ≤ hi)) := ev_congr (fun k => by rw [impl_in_eq]) (by by_cases h : lo ≤ n <;> simp [ev_some_iff, h])

/-! ### keys -/
def keyByte (b : UInt8) : Bool := (decide (97 ≤ b.toNat) && decide (b.toNat ≤ 122)) || (decide (48 ≤ b.toNat) && decide (b.toNat ≤ 57))
def keyB (s : ByteArray) : Bool := decide (1 ≤ s.size ∧ s.size ≤ 8) && s.data.toList.all keyByte
def keyCut : List UInt8 := [97, 98, 99, 100, 101, 102, 103, 104, 105, 106, 107, 108, 109, 110, 111, 112, 113, 114, 115, 116, 117, 118, 119, 120, 121, 122, 48, 49, 50, 51, 52, 53, 54, 55, 56, 57]
theorem keyCut_has (b : UInt8) : keyCut.contains b = keyByte b := by
  have h : ∀ n : Fin 256, keyCut.contains (UInt8.ofNat n.val) = keyByte (UInt8.ofNat n.val) := by decide +kernel
  have := h ⟨b.toNat, b.toNat_lt⟩
  simpa using this
theorem drop_nil {α : Type} (p : α → Bool) (l : List α) : (l.dropWhile p).isEmpty = l.all p := by
  induction l with
  | nil => rfl
  | cons x l ih => cases h : p x <;> simp [List.dropWhile_cons, h, ih]
theorem all_drop {α : Type} (p : α → Bool) (l : List α) : (l.dropWhile p).all p = l.all p := by
  induction l with
  | nil => rfl
  | cons x l ih => cases h : p x <;> simp [List.dropWhile_cons, h, ih]
theorem trim_nil (l : List UInt8) : (Go.Lib.trimS l keyCut).isEmpty = l.all keyByte := by
  unfold Go.Lib.trimS Go.Lib.trimLeftS Go.Lib.trimRightS
  rw [drop_nil, List.all_reverse, all_drop, List.all_reverse]
  congr 1
  funext b
  exact keyCut_has b
theorem mk_nil (l : List UInt8) : decide ((⟨l.toArray⟩ : ByteArray) = ByteArray.mk (Array.mk [])) = l.isEmpty := by
  cases l with
  | nil => exact decide_eq_true rfl
  | cons x l => exact decide_eq_false (fun h => by have := congrArg (fun b : ByteArray => b.data.size) h; simp at this)
theorem isKey_ev (s : ByteArray) : Ev (fun k => impl_isKey k s) (keyB s) := by
  refine ev_congr (fun k => impl_isKey_eq k s) ?_
  have e : MapW.strings_Trim.f s ⟨#[97, 98, 99, 100, 101, 102, 103, 104, 105, 106, 107, 108, 109, 110, 111, 112, 113, 114, 115, 116, 117, 118, 119, 120, 121, 122, 48, 49, 50, 51, 52, 53, 54, 55, 56, 57]⟩ = if s.size ≤ 9223372036854775807 then some ⟨(Go.Lib.trimS s.data.toList keyCut).toArray⟩ else none := by
    unfold MapW.strings_Trim.f
    by_cases h : s.size ≤ 9223372036854775807
    · rw [if_pos ⟨h, by decide, by decide⟩, if_pos h]; rfl
    · rw [if_neg (fun hh => h hh.1), if_neg h]
  simp only [e]
  unfold keyB
  by_cases h1 : (1 : Int) ≤ (s.size : Int)
  · by_cases h2 : (s.size : Int) ≤ 8
    · have h3 : 1 ≤ s.size ∧ s.size ≤ 8 := by omega
      rw [if_pos h1, if_pos h2, if_pos (by omega)]
      simp only [Option.bind_some, mk_nil, trim_nil, h3, decide_true, and_self, Bool.true_and]
      exact ev_some _
    · have h3 : ¬ (1 ≤ s.size ∧ s.size ≤ 8) := by omega
      rw [if_pos h1, if_neg h2]
      simp only [h3, decide_false, Bool.false_and]
      exact ev_some _
  · have h3 : ¬ (1 ≤ s.size ∧ s.size ≤ 8) := by omega
    rw [if_neg h1]
    simp only [h3, decide_false, Bool.false_and]
    exact ev_some _
theorem l1Key_ev (s : ByteArray) (hs : s.size ≤ 140737488355328) : Ev (fun k => spec_l1Key k s) (keyB s) := by
  have hl := size_len s
  have key := drop_ind0 s.data.toList (fun n rest => Ev (fun k => spec_l1Key_h2 k s (n : Int)) (rest.all keyByte && decide (1 ≤ s.size ∧ s.size ≤ 8))) ?_ ?_
  · refine ev_congr (fun k => spec_l1Key_eq k s) ?_
    unfold keyB
    rw [Bool.and_comm]
    exact key
  · refine ev_shift ?_
    simp only [spec_l1Key_h2_eq, ev_ite_iff, ev_bind_iff (l1In_ev _ _ _), ev_some_iff]
    rw [← hl, if_neg (by omega)]
    simp only [List.all_nil, Bool.true_and]
    congr 1
    exact propext ⟨fun h => by omega, fun h => by omega⟩
  · intro n b rest hn hx hd ih
    refine ev_shift ?_
    simp only [spec_l1Key_h2_eq, bt_nat hx, wrap_nat (show n < 9223372036854775807 by omega), ev_ite_iff, ev_some_iff, ev_none_iff, List.all_cons]
    rw [if_pos (by omega), if_pos (by omega), if_pos (by omega)]
    cases hp : keyByte b with
    | true =>
      simp only [Bool.true_and]
      simp only [keyByte, Bool.or_eq_true, Bool.and_eq_true, decide_eq_true_eq] at hp
      split
      · split
        · exact ih
        · rw [if_pos (by omega), if_neg (by omega)]; exact ih
      · rw [if_pos (by omega), if_neg (by omega)]; exact ih
    | false =>
      simp only [keyByte, Bool.or_eq_false_iff, Bool.and_eq_false_iff, decide_eq_false_iff_not] at hp
      simp only [Bool.false_and]
      split
      · rw [if_neg (by omega)]
        split
        · rw [if_pos (by omega)]; trivial
        · trivial
      · split
        · rw [if_pos (by omega)]; trivial
        · trivial

/-! ### has -/
def hasB (l : List Int) (n : Int) : Bool := l.any fun x => decide (x = n)
theorem hasB_iff {l : List Int} {n : Int} : hasB l n = true ↔ n ∈ l := by simp [hasB]
theorem l1Has_ev (l : List Int) (n : Int) (hl : l.length ≤ 140737488355328) : Ev (fun k => spec_l1Has k l n) (hasB l n) := by
  have key := drop_ind0 l (fun j rest => Ev (fun k => spec_l1Has_h2 k n l (l.length : Int) (j : Int)) (hasB rest n)) ?_ ?_
  · exact ev_congr (fun k => spec_l1Has_eq k l n) key
  · exact ev_last fun k => by rw [spec_l1Has_h2_eq, if_neg (by omega)]; rfl
  · intro j x rest hj hx hd ih
    refine ev_shift ?_
    simp only [spec_l1Has_h2_eq, rdT_get (e := .int .i64) hx, wrap_nat (show j < 9223372036854775807 by omega), ev_ite_iff, ev_none_iff, ev_some_iff]
    rw [if_pos (by omega), if_pos (by omega), if_pos (by omega)]
    unfold hasB
    rw [List.any_cons]
    by_cases h : x = n
    · rw [if_pos h]; simp [h]
    · rw [if_neg h]; simpa [h, hasB] using ih

/-! ### lock -/
abbrev HoldT := Int × Int
abbrev LockT := ByteArray × List HoldT × List HoldT
abbrev HoldK : Kind := .struct (.pair (.int .i64) (.int .i64))
abbrev LockK : Kind := .struct (.pair .str (.pair (.slice HoldK) (.slice HoldK)))
def szokLock (x : LockT) : Prop := x.1.size ≤ 140737488351232 ∧ x.2.1.length ≤ 140737488351232 ∧ x.2.2.length ≤ 140737488351232
def szBLock (x : LockT) : Prop := x.1.size ≤ 1048576 ∧ x.2.1.length ≤ 1048576 ∧ x.2.2.length ≤ 1048576
theorem szHoldS_ev (l : List HoldT) (hl : l.length ≤ 140737488351232) (a : Int) (h0 : 0 ≤ a) (h1 : a ≤ 1048576) : ∃ v, Ev (fun k => laws_szHoldS k l a) v ∧ v ≤ a ∧ (0 ≤ v → l.length ≤ 1048576) := by
  have w : wrap64 (a - (l.length : Int)) = a - l.length := wrap_of (by omega) (by omega)
  by_cases h : a - (l.length : Int) < 0
  · exact ⟨-1, ev_congr (fun k => by rw [laws_szHoldS_eq, w, if_pos h]) (ev_some _), by omega, fun h => by omega⟩
  · exact ⟨_, ev_congr (fun k => by rw [laws_szHoldS_eq, w, if_neg h]) (ev_some _), by omega, fun _ => by omega⟩
theorem szLock_ev (x : LockT) (hx : szokLock x) (a : Int) (h0 : 0 ≤ a) (h1 : a ≤ 1048576) : ∃ v, Ev (fun k => laws_szLock k x a) v ∧ v ≤ a ∧ (0 ≤ v → szBLock x) := by
  obtain ⟨x1, x2, x3⟩ := hx
  have w : wrap64 (a - (x.1.size : Int)) = a - x.1.size := wrap_of (by omega) (by omega)
  by_cases h : a - (x.1.size : Int) < 0
  · exact ⟨-1, ev_congr (fun k => by rw [laws_szLock_eq, w, if_pos h]) (ev_some _), by omega, fun h => by omega⟩
  · obtain ⟨v, hv, hle, hB⟩ := szHoldS_ev x.2.1 x2 (a - x.1.size) (by omega) (by omega)
    by_cases hneg : v < 0
    · refine ⟨-1, ev_congr (fun k => by rw [laws_szLock_eq, w, if_neg h]) (ev_bind hv (ev_if_pos hneg (ev_some _))), by omega, fun h => by omega⟩
    · obtain ⟨u, hu, hle2, hB2⟩ := szHoldS_ev x.2.2 x3 v (by omega) (by omega)
      by_cases hneg2 : u < 0
      · exact ⟨-1, ev_congr (fun k => by rw [laws_szLock_eq, w, if_neg h]) (ev_bind hv (ev_if_neg hneg (ev_bind hu (ev_if_pos hneg2 (ev_some _))))), by omega, fun h => by omega⟩
      · exact ⟨u, ev_congr (fun k => by rw [laws_szLock_eq, w, if_neg h]) (ev_bind hv (ev_if_neg hneg (ev_bind hu (ev_if_neg hneg2 (ev_some _))))), by omega, fun _ => ⟨by omega, hB (by omega), hB2 (by omega)⟩⟩
theorem szLockS_ev (l : List LockT) (hl : l.length ≤ 140737488355328) (hk : ∀ x ∈ l, szokLock x) (a : Int) (h0 : 0 ≤ a) (h1 : a ≤ 1048576) : ∃ v, Ev (fun k => laws_szLockS k l a) v ∧ v ≤ a ∧ (0 ≤ v → l.length ≤ 1048576 ∧ ∀ x ∈ l, szBLock x) :=
  sz_top (fun k l a => laws_szLockS_eq k l a) (sz_row (e := LockK) (fun k l a i => laws_szLockS_h5_eq k l a i) (fun x hx a h0 h1 => szLock_ev x (hk x hx) a h0 h1) (by omega)) hl a h0 h1
theorem toHold_ev (x : HoldT) : Ev (fun k => laws_toHold k x) x := ev_congr (fun k => laws_toHold_eq k x) (ev_some x)
theorem eqHold_ev (x : HoldT) : Ev (fun k => laws_eqHold k x x) true := ev_congr (fun k => laws_eqHold_eq k x x) (by simp [ev_some_iff])
theorem toHoldS_ev (l) (hl : l.length ≤ 1048576) : Ev (fun k => laws_toHoldS k l) l := by
  refine ev_congr (fun k => laws_toHoldS_eq k l) ?_
  simp only [ev_ite_iff]
  rw [if_pos trivial, if_pos (by omega)]
  simpa using to_row (l := l) (cv := id) (z := _) (fun k l r i => laws_toHoldS_h3_eq k l r i) (fun x _ => toHold_ev x) (by omega)
theorem eqHoldS_ev (l) (hl : l.length ≤ 140737488355328) : Ev (fun k => laws_eqHoldS k l l) true := by
  refine ev_congr (fun k => laws_eqHoldS_eq k l l) ?_
  simp only [ev_ite_iff]
  rw [if_neg (by simp)]
  exact eq_row (l := l) (fun k a b i => laws_eqHoldS_h4_eq k a b i) (fun x _ => eqHold_ev x) (by omega)
theorem toLock_ev (x : LockT) (hx : szBLock x) : Ev (fun k => laws_toLock k x) x :=
  ev_congr (fun k => laws_toLock_eq k x) (ev_bind (toHoldS_ev x.2.1 hx.2.1) (ev_bind (toHoldS_ev x.2.2 hx.2.2) (ev_some x)))
theorem eqLock_ev (x : LockT) (hx : szBLock x) : Ev (fun k => laws_eqLock k x x) true :=
  ev_congr (fun k => laws_eqLock_eq k x x) (ev_if_neg (by simp) (ev_bind (eqHoldS_ev x.2.1 (by have := hx.2.1; omega)) (ev_if_neg (by simp) (ev_bind (eqHoldS_ev x.2.2 (by have := hx.2.2; omega)) (ev_if_neg (by simp) (ev_some true))))))
theorem toLockS_ev (l : List LockT) (hl : l.length ≤ 1048576) (hB : ∀ x ∈ l, szBLock x) : Ev (fun k => laws_toLockS k l) l := by
  refine ev_congr (fun k => laws_toLockS_eq k l) ?_
  simp only [ev_ite_iff]
  rw [if_pos trivial, if_pos (by omega)]
  simpa using to_row (e := LockK) (d := LockK) (l := l) (cv := id) (z := _) (fun k l r i => laws_toLockS_h3_eq k l r i) (fun x hx => toLock_ev x (hB x hx)) (by omega)
theorem eqLockS_ev (l : List LockT) (hl : l.length ≤ 1048576) (hB : ∀ x ∈ l, szBLock x) : Ev (fun k => laws_eqLockS k l l) true := by
  refine ev_congr (fun k => laws_eqLockS_eq k l l) ?_
  simp only [ev_ite_iff]
  rw [if_neg (by simp)]
  exact eq_row (e := LockK) (l := l) (fun k a b i => laws_eqLockS_h4_eq k a b i) (fun x hx => eqLock_ev x (hB x hx)) (by omega)

/-! ### goodlocks0 -/
/-! the two maps of who waits: a list here, a map there -/
theorem mgetT_put : ∀ (m : List (Int × Bool)) (n x : Int), mgetT (.int .i64) .bool (mputT (.int .i64) .bool m n true) x = (decide (x = n) || mgetT (.int .i64) .bool m x)
  | [], n, x => by
    by_cases h : x = n <;> simp [mgetT, mputT, mfind, eqT, h, zeroT]
  | p :: m, n, x => by
    have ih := mgetT_put m n x
    simp only [mgetT, mputT, mfind, eqT] at ih ⊢
    by_cases h1 : n = p.1 <;> by_cases h2 : x = p.1 <;> by_cases h3 : x = n <;> simp_all [mfind, eqT]
def Rel2 (ws : List Int) (m : List (Int × Bool)) : Prop := ∀ n, mgetT (.int .i64) .bool m n = hasB ws n
theorem rel_put {ws : List Int} {m : List (Int × Bool)} (h : Rel2 ws m) (n : Int) : Rel2 (ws ++ [n]) (mputT (.int .i64) .bool m n true) := by
  intro x
  rw [mgetT_put, h x]
  simp only [hasB, List.any_append, List.any_cons, List.any_nil, Bool.or_false]
  rw [Bool.or_comm]
  congr 1
  exact decide_eq_decide.2 ⟨fun h => h.symm, fun h => h.symm⟩
theorem both_shift {α : Type} {f g : Nat → Option α} {b : α} (h : Ev (fun k => f (k + 1)) b ∧ Ev (fun k => g (k + 1)) b) : Ev f b ∧ Ev g b := ⟨ev_shift h.1, ev_shift h.2⟩
def txnB (n : Int) : Bool := decide (1 ≤ n ∧ n ≤ 1000)
theorem txn_ev (n : Int) : Ev (fun k => spec_l4Txn k n) (txnB n) := ev_congr (fun k => spec_l4Txn_eq k n) ((ev_bind_iff (l1In_ev _ _ _)).2 (ev_some _))
theorem isTxn_ev (n : Int) : Ev (fun k => impl_isTxn k n) (txnB n) := ev_congr (fun k => impl_isTxn_eq k n) ((ev_bind_iff (in_ev _ _ _)).2 (ev_some _))
def modeB (n : Int) : Bool := decide (1 ≤ n ∧ n ≤ 2)
theorem isMode_ev (n : Int) : Ev (fun k => impl_isMode k n) (modeB n) := by
  refine ev_congr (fun k => impl_isMode_eq k n) ?_
  simp only [ev_ite_iff, ev_some_iff, modeB]
  by_cases h : n = 1
  · rw [if_pos h]; simp [h]
  · rw [if_neg h]; congr 1; exact propext ⟨fun h => by omega, fun h' => by omega⟩
def holdB (h : HoldT) : Bool := txnB h.1 && modeB h.2
theorem l4Hold_ev (h : HoldT) : Ev (fun k => spec_l4Hold k h) (holdB h) := by
  refine ev_congr (fun k => spec_l4Hold_eq k h) ?_
  simp only [ev_bind_iff (txn_ev _), ev_bind_iff (l1In_ev _ _ _), ev_ite_iff, ev_some_iff, holdB, modeB]
  cases txnB h.1 <;> simp
/-! a look through a row -/
def clashB (h o : HoldT) : Bool := !decide (o.1 = h.1) && (decide (h.2 = 2) || decide (o.2 = 2))
theorem l4Can_ev (x : LockT) (h : HoldT) (hl : x.2.1.length ≤ 1048576) : Ev (fun k => spec_l4Can k x h) (!x.2.1.any (clashB h)) := by
  refine ev_congr (fun k => spec_l4Can_eq k x h) ?_
  refine drop_ind0 x.2.1 (fun n rest => Ev (fun k => spec_l4Can_h2 k h x.2.1 (x.2.1.length : Int) (n : Int)) (!rest.any (clashB h))) ?_ ?_
  · exact ev_last fun k => by rw [spec_l4Can_h2_eq, if_neg (by omega)]; rfl
  · intro n o rest hn ho _ ih
    refine ev_shift ?_
    simp only [spec_l4Can_h2_eq, rdT_get (e := HoldK) ho, wrap_nat (show n < 9223372036854775807 by omega), ev_ite_iff, ev_none_iff, ev_some_iff, List.any_cons]
    rw [if_pos (by omega), if_pos (by omega), if_pos (by omega)]
    unfold clashB at ih ⊢
    by_cases h1 : o.1 = h.1 <;> by_cases h2 : h.2 = 2 <;> by_cases h3 : o.2 = 2 <;> simpa [h1, h2, h3] using ih
theorem l4Elder_ev (x : LockT) (t : Int) (hl : x.2.1.length ≤ 1048576) : Ev (fun k => spec_l4Elder k x t) (!x.2.1.any fun o => decide (o.1 < t)) := by
  refine ev_congr (fun k => spec_l4Elder_eq k x t) ?_
  refine drop_ind0 x.2.1 (fun n rest => Ev (fun k => spec_l4Elder_h2 k t x.2.1 (x.2.1.length : Int) (n : Int)) (!rest.any fun o => decide (o.1 < t))) ?_ ?_
  · exact ev_last fun k => by rw [spec_l4Elder_h2_eq, if_neg (by omega)]; rfl
  · intro n o rest hn ho _ ih
    refine ev_shift ?_
    simp only [spec_l4Elder_h2_eq, rdT_get (e := HoldK) ho, wrap_nat (show n < 9223372036854775807 by omega), ev_ite_iff, ev_none_iff, ev_some_iff, List.any_cons]
    rw [if_pos (by omega), if_pos (by omega), if_pos (by omega)]
    by_cases h1 : o.1 < t
    · have h3 : ¬ o.1 = t := by omega
      simp [h1, h3]
    · have h2 : decide (o.1 < t) = false := by simp [h1]
      rw [if_neg h1]
      simp only [h2, Bool.false_or, ite_self]
      exact ih
theorem idx_nonneg {α : Type} (p : α → Bool) : ∀ (l : List α) (n : Nat), decide (0 ≤ idxFrom p n l) = l.any p
  | [], n => rfl
  | x :: l, n => by
    rw [List.any_cons, ← idx_nonneg p l (n + 1), idxFrom]
    by_cases h : p x = true <;> simp [h]
theorem has1_ev (l : List HoldT) (hl : l.length ≤ 1048576) (t : Int) : Ev (fun k => slices_ContainsFunc k l (t, ())) (l.any fun o => decide (o.1 < t)) := by
  have key := drop_ind0 l (fun n rest => Ev (fun k => slices_IndexFunc_h2 k l (t, ()) (l.length : Int) (n : Int)) (idxFrom (fun o : HoldT => decide (o.1 < t)) n rest)) ?_ ?_
  · refine ev_congr (fun k => slices_ContainsFunc_eq k l _) ?_
    simp only [ev_bind_iff (ev_congr (fun k => slices_IndexFunc_eq k l (t, ())) key), ev_some_iff, idx_nonneg]
  · exact ev_last fun k => by rw [slices_IndexFunc_h2_eq, if_neg (by omega)]; rfl
  · intro n o rest hn ho _ ih
    refine ev_shift ?_
    simp only [slices_IndexFunc_h2_eq, impl_Lock_isElder_1_eq, rdT_get (e := HoldK) ho, wrap_nat (show n < 9223372036854775807 by omega), Option.bind_some, ev_ite_iff, ev_none_iff, ev_some_iff, idxFrom]
    rw [if_pos (by omega), if_pos (by omega), if_pos (by omega)]
    by_cases h1 : o.1 < t <;> simpa [h1] using ih
theorem has2_ev (l : List HoldT) (hl : l.length ≤ 1048576) (t : Int) : Ev (fun k => slices_ContainsFunc_i1 k l (t, ())) (l.any fun o => decide (o.1 ≤ t)) := by
  have key := drop_ind0 l (fun n rest => Ev (fun k => slices_IndexFunc_i1_h2 k l (t, ()) (l.length : Int) (n : Int)) (idxFrom (fun o : HoldT => decide (o.1 ≤ t)) n rest)) ?_ ?_
  · refine ev_congr (fun k => slices_ContainsFunc_i1_eq k l _) ?_
    simp only [ev_bind_iff (ev_congr (fun k => slices_IndexFunc_i1_eq k l (t, ())) key), ev_some_iff, idx_nonneg]
  · exact ev_last fun k => by rw [slices_IndexFunc_i1_h2_eq, if_neg (by omega)]; rfl
  · intro n o rest hn ho _ ih
    refine ev_shift ?_
    simp only [slices_IndexFunc_i1_h2_eq, impl_Lock_isElder_2_eq, rdT_get (e := HoldK) ho, wrap_nat (show n < 9223372036854775807 by omega), Option.bind_some, ev_ite_iff, ev_none_iff, ev_some_iff, idxFrom]
    rw [if_pos (by omega), if_pos (by omega), if_pos (by omega)]
    by_cases h1 : o.1 ≤ t <;> simpa [h1] using ih
theorem has3_ev (l : List HoldT) (hl : l.length ≤ 1048576) (h : HoldT) : Ev (fun k => slices_ContainsFunc_i2 k l (h, ())) (l.any (clashB h)) := by
  have key := drop_ind0 l (fun n rest => Ev (fun k => slices_IndexFunc_i2_h2 k l (h, ()) (l.length : Int) (n : Int)) (idxFrom (clashB h) n rest)) ?_ ?_
  · refine ev_congr (fun k => slices_ContainsFunc_i2_eq k l _) ?_
    simp only [ev_bind_iff (ev_congr (fun k => slices_IndexFunc_i2_eq k l (h, ())) key), ev_some_iff, idx_nonneg]
  · exact ev_last fun k => by rw [slices_IndexFunc_i2_h2_eq, if_neg (by omega)]; rfl
  · intro n o rest hn ho _ ih
    have hc : Ev (fun k => impl_Lock_may_1 k o h) (clashB h o) := by
      refine ev_congr (fun k => impl_Lock_may_1_eq k o h) ?_
      simp only [ev_ite_iff, ev_some_iff, clashB]
      by_cases h1 : o.1 = h.1 <;> by_cases h2 : h.2 = 2 <;> simp [h1, h2]
    refine ev_shift ?_
    simp only [slices_IndexFunc_i2_h2_eq, rdT_get (e := HoldK) ho, wrap_nat (show n < 9223372036854775807 by omega), ev_bind_iff hc, ev_ite_iff, ev_none_iff, ev_some_iff, idxFrom]
    rw [if_pos (by omega), if_pos (by omega), if_pos (by omega)]
    cases h1 : clashB h o <;> simpa [h1] using ih
theorem isElder_ev (x : LockT) (t : Int) (w : List HoldT) (h1 : x.2.1.length ≤ 1048576) (h2 : w.length ≤ 1048576) : Ev (fun k => impl_Lock_isElder k x t w) (!(x.2.1.any fun o => decide (o.1 < t)) && !(w.any fun o => decide (o.1 ≤ t))) := by
  refine ev_congr (fun k => impl_Lock_isElder_eq k x t w) ?_
  simp only [ev_bind_iff (has1_ev x.2.1 h1 t), ev_bind_iff (has2_ev w h2 t), ev_ite_iff, ev_some_iff]
  cases (x.2.1.any fun o => decide (o.1 < t)) <;> simp
theorem may_ev (x : LockT) (h : HoldT) (h1 : x.2.1.length ≤ 1048576) : Ev (fun k => impl_Lock_may k x h) (!x.2.1.any (clashB h)) :=
  ev_congr (fun k => impl_Lock_may_eq k x h) ((ev_bind_iff (has3_ev x.2.1 h1 h)).2 (ev_some _))

/-- those that wait stand with the younger ahead -/
def decFrom (ws : List HoldT) (j : Nat) : Prop := ∀ i w, j ≤ i → ws[i]? = some w → ∀ o ∈ ws.take i, w.1 < o.1
/-- those that wait -/
theorem waits_ev (l : List LockT) (hl : l.length ≤ 1048576) (x : LockT) (n : Nat) (hn : n < l.length) (h1 : x.2.1.length ≤ 1048576) (h8 : x.2.2.length ≤ 8)
    {R : Prop} (hnext : ∀ ws m, Rel2 ws m → ws.length ≤ 8 * (n + 1) → ∃ b, (b = true → R) ∧ Ev (fun k => spec_GoodLocks_h3 k l ws l (l.length : Int) ((n + 1 : Nat) : Int)) b ∧ Ev (fun k => impl_areLocks_h3 k l m l (l.length : Int) ((n + 1 : Nat) : Int)) b) :
    ∀ ws m, Rel2 ws m → ws.length ≤ 8 * n → ∃ b, (b = true → R ∧ decFrom x.2.2 0) ∧ Ev (fun k => spec_GoodLocks_h14 k l ws x l (l.length : Int) (n : Int) x.2.2 (x.2.2.length : Int) 0) b ∧ Ev (fun k => impl_areLocks_h14 k l m x l (l.length : Int) (n : Int) x.2.2 (x.2.2.length : Int) 0) b := by
  have key := drop_ind0 x.2.2 (fun j rs => ∀ ws m, Rel2 ws m → ws.length ≤ 8 * n + j → (∀ p, 0 < j → x.2.2[j - 1]? = some p → ∀ o ∈ x.2.2.take j, p.1 ≤ o.1) → ∃ b, (b = true → R ∧ decFrom x.2.2 j) ∧ Ev (fun k => spec_GoodLocks_h14 k l ws x l (l.length : Int) (n : Int) x.2.2 (x.2.2.length : Int) (j : Int)) b ∧ Ev (fun k => impl_areLocks_h14 k l m x l (l.length : Int) (n : Int) x.2.2 (x.2.2.length : Int) (j : Int)) b) ?_ ?_
  · intro ws m hr hw
    exact key ws m hr (by omega) (fun p h => absurd h (by omega))
  · intro ws m hr hw _
    obtain ⟨b, b0, b1, b2⟩ := hnext ws m hr (by omega)
    refine ⟨b, fun h => ⟨b0 h, fun i w hi hw => by have := (List.getElem?_eq_some_iff.1 hw).1; omega⟩, ev_shift ?_, ev_shift ?_⟩
    · simp only [spec_GoodLocks_h14_eq, wrap_nat (show n < 9223372036854775807 by omega), ev_ite_iff]
      rw [if_neg (by omega)]
      exact b1
    · simp only [impl_areLocks_h14_eq, wrap_nat (show n < 9223372036854775807 by omega), ev_ite_iff]
      rw [if_neg (by omega)]
      exact b2
  · intro j w rs hj hw _ ih ws m hr hlen hdec
    have e5 : ((x.2.2.take j).any fun o => decide (o.1 ≤ w.1)) = (decide (0 < j) && decide ((rdT HoldK x.2.2 ((j : Int) - 1)).1 ≤ w.1)) := by
      cases j with
      | zero => rfl
      | succ i =>
        obtain ⟨p, hp⟩ : ∃ p, x.2.2[i]? = some p := ⟨_, List.getElem?_eq_getElem (by omega)⟩
        have e : ((i + 1 : Nat) : Int) - 1 = (i : Int) := by omega
        rw [e, rdT_get (e := HoldK) hp]
        have hd := hdec p (by omega) hp
        have hmem : p ∈ x.2.2.take (i + 1) := by rw [take_snoc hp]; simp
        rw [Bool.eq_iff_iff]
        simp only [List.any_eq_true, decide_eq_true_eq, Bool.and_eq_true]
        constructor
        · rintro ⟨o, ho, h⟩
          exact ⟨by omega, Int.le_trans (hd o ho) h⟩
        · rintro ⟨_, h⟩
          exact ⟨p, hmem, h⟩
    have hwl : ws.length ≤ 140737488355328 := by omega
    have htl : (x.2.2.take j).length ≤ 1048576 := by rw [List.length_take]; omega
    have hsl : (List.drop (Int.toNat 0) (List.take (Int.toNat (j : Int)) x.2.2)) = x.2.2.take j := by simp
    have hap : (ws.length + (List.length (List.cons w.1 [])) ≤ 17592186044416) := by simp only [List.length_cons, List.length_nil]; omega
    by_cases hok : holdB w = true ∧ hasB ws w.1 = false ∧ ((j : Int) = 0 → x.2.1.any (clashB w) = true) ∧ (x.2.1.any fun o => decide (o.1 < w.1)) = false ∧ ((x.2.2.take j).any fun o => decide (o.1 ≤ w.1)) = false
    · obtain ⟨k1, k2, k3, k4, k5⟩ := hok
      have k6 : txnB w.1 = true ∧ modeB w.2 = true := by simpa [holdB] using k1
      obtain ⟨b, b0, b1, b2⟩ := ih (ws ++ [w.1]) _ (rel_put hr w.1) (by simp only [List.length_append, List.length_cons, List.length_nil]; omega) (fun p _ hp o ho => by
        have : p = w := by
          rw [show j + 1 - 1 = j from rfl, hw] at hp
          exact (Option.some.inj hp).symm
        subst this
        rw [take_snoc hw] at ho
        rcases List.mem_append.1 ho with ho | ho
        · have := List.any_eq_false.1 k5 o ho
          simp only [decide_eq_true_eq] at this
          omega
        · have := List.mem_singleton.1 ho; subst this; omega)
      have k7 := k5
      rw [e5] at k7
      refine ⟨b, fun h => ⟨(b0 h).1, fun i w' hi hw' o ho => ?_⟩, ev_shift ?_, ev_shift ?_⟩
      · rcases Nat.eq_or_lt_of_le hi with e | hlt
        · subst e
          rw [hw] at hw'; cases hw'
          have := List.any_eq_false.1 k5 o ho
          simp only [decide_eq_true_eq] at this
          omega
        · exact (b0 h).2 i w' hlt hw' o ho
      · simp only [spec_GoodLocks_h14_eq, rdT_get (e := HoldK) hw, wrap_nat (show j < 9223372036854775807 by omega), wrap_pred (show j < 9223372036854775807 by omega), ev_bind_iff (l4Hold_ev w), ev_bind_iff (l1Has_ev ws w.1 hwl), ev_bind_iff (l4Can_ev x w h1), ev_bind_iff (l4Elder_ev x w.1 h1), ev_ite_iff, ev_some_iff, ev_none_iff, k1, k2, k4, if_pos hap]
        rw [if_pos (by omega), if_pos (by omega), if_pos (by omega)]
        by_cases hj0 : (j : Int) = 0
        · have : ¬ (0 : Int) < (j : Int) := by omega
          simp only [if_pos hj0, k3 hj0, if_neg this]
          simpa using b1
        · have c1 : (0 : Int) < (j : Int) := by omega
          have c2 : (0 : Int) ≤ (j : Int) - 1 := by omega
          have c3 : (j : Int) - 1 < (x.2.2.length : Int) := by omega
          have c4 : ¬ (rdT HoldK x.2.2 ((j : Int) - 1)).1 ≤ w.1 := by simpa [show 0 < j by omega] using k7
          simp only [if_neg hj0, if_pos c1, if_pos c2, if_pos c3, if_neg c4]
          simpa using b1
      · simp only [impl_areLocks_h14_eq, rdT_get (e := HoldK) hw, wrap_nat (show j < 9223372036854775807 by omega), hsl, ev_bind_iff (isTxn_ev _), ev_bind_iff (isMode_ev _), ev_bind_iff (isElder_ev x w.1 (x.2.2.take j) h1 htl), ev_bind_iff (may_ev x w h1), hr w.1, ev_ite_iff, ev_some_iff, ev_none_iff, k6.1, k6.2, k2, k4, k5]
        rw [if_pos (by omega), if_pos (by omega), if_pos (by omega)]
        by_cases hj0 : (j : Int) = 0
        · have c2 : (0 : Int) ≤ (j : Int) := by omega
          have c3 : (j : Int) ≤ (x.2.2.length : Int) := by omega
          simp only [if_pos hj0, k3 hj0, if_pos c2, if_pos c3]
          simpa using b2
        · have c2 : (0 : Int) ≤ (j : Int) := by omega
          have c3 : (j : Int) ≤ (x.2.2.length : Int) := by omega
          simp only [if_neg hj0, if_pos c2, if_pos c3]
          simpa using b2
    · have k5 : j = 0 → ((x.2.2.take j).any fun o => decide (o.1 ≤ w.1)) = false := fun h => by subst h; rfl
      refine ⟨false, fun h => (by cases h), ev_shift ?_, ev_shift ?_⟩
      · simp only [spec_GoodLocks_h14_eq, rdT_get (e := HoldK) hw, wrap_nat (show j < 9223372036854775807 by omega), wrap_pred (show j < 9223372036854775807 by omega), ev_bind_iff (l4Hold_ev w), ev_bind_iff (l1Has_ev ws w.1 hwl), ev_bind_iff (l4Can_ev x w h1), ev_bind_iff (l4Elder_ev x w.1 h1), ev_ite_iff, ev_some_iff, ev_none_iff, if_pos hap]
        rw [if_pos (by omega), if_pos (by omega), if_pos (by omega)]
        cases q1 : holdB w with
        | false => simp
        | true =>
        cases q2 : hasB ws w.1 with
        | true => simp
        | false =>
        by_cases hj0 : (j : Int) = 0
        · cases q3 : x.2.1.any (clashB w) with
          | false => simp [hj0]
          | true =>
          cases q4 : (x.2.1.any fun o => decide (o.1 < w.1)) with
          | true => simp [hj0]
          | false => exact absurd ⟨q1, q2, fun _ => q3, q4, k5 (by omega)⟩ hok
        · cases q4 : (x.2.1.any fun o => decide (o.1 < w.1)) with
          | true => simp [hj0]
          | false =>
          cases q5 : ((x.2.2.take j).any fun o => decide (o.1 ≤ w.1)) with
          | false => exact absurd ⟨q1, q2, fun h => absurd h hj0, q4, q5⟩ hok
          | true =>
            rw [e5] at q5
            have c1 : (0 : Int) < (j : Int) := by omega
            have c2 : (0 : Int) ≤ (j : Int) - 1 := by omega
            have c3 : (j : Int) - 1 < (x.2.2.length : Int) := by omega
            have c4 : (rdT HoldK x.2.2 ((j : Int) - 1)).1 ≤ w.1 := by simpa [show 0 < j by omega] using q5
            simp only [if_neg hj0, if_pos c1, if_pos c2, if_pos c3, if_pos c4]
            simp
      · simp only [impl_areLocks_h14_eq, rdT_get (e := HoldK) hw, wrap_nat (show j < 9223372036854775807 by omega), hsl, ev_bind_iff (isTxn_ev _), ev_bind_iff (isMode_ev _), ev_bind_iff (isElder_ev x w.1 (x.2.2.take j) h1 htl), ev_bind_iff (may_ev x w h1), hr w.1, ev_ite_iff, ev_some_iff, ev_none_iff]
        have c2 : (0 : Int) ≤ (j : Int) := by omega
        have c3 : (j : Int) ≤ (x.2.2.length : Int) := by omega
        rw [if_pos (by omega), if_pos (by omega), if_pos (by omega)]
        cases p1 : txnB w.1 with
        | false => simp
        | true =>
        cases p2 : modeB w.2 with
        | false => simp
        | true =>
        have q1 : holdB w = true := by simp [holdB, p1, p2]
        cases q2 : hasB ws w.1 with
        | true => simp
        | false =>
        simp only [if_pos c2, if_pos c3]
        cases q4 : (x.2.1.any fun o => decide (o.1 < w.1)) with
        | true => simp
        | false =>
        cases q5 : ((x.2.2.take j).any fun o => decide (o.1 ≤ w.1)) with
        | true => simp
        | false =>
        by_cases hj0 : (j : Int) = 0
        · cases q3 : x.2.1.any (clashB w) with
          | false => simp [hj0]
          | true => exact absurd ⟨q1, q2, fun _ => q3, q4, q5⟩ hok
        · exact absurd ⟨q1, q2, fun h => absurd h hj0, q4, q5⟩ hok
/-- those that hold -/
theorem holds_ev (l : List LockT) (hl : l.length ≤ 1048576) (x : LockT) (n : Nat) (hn : n < l.length) (h1 : x.2.1.length ≤ 1048576) (ws : List Int) (m : List (Int × Bool))
    {R : Prop} (hnext : ∃ b, (b = true → R) ∧ Ev (fun k => spec_GoodLocks_h14 k l ws x l (l.length : Int) (n : Int) x.2.2 (x.2.2.length : Int) 0) b ∧ Ev (fun k => impl_areLocks_h14 k l m x l (l.length : Int) (n : Int) x.2.2 (x.2.2.length : Int) 0) b) :
    ∃ b, (b = true → R) ∧ Ev (fun k => spec_GoodLocks_h8 k l ws x l (l.length : Int) (n : Int) x.2.1 (x.2.1.length : Int) 0) b ∧ Ev (fun k => impl_areLocks_h8 k l m x l (l.length : Int) (n : Int) x.2.1 (x.2.1.length : Int) 0) b := by
  refine drop_ind0 x.2.1 (fun j rs => ∃ b, (b = true → R) ∧ Ev (fun k => spec_GoodLocks_h8 k l ws x l (l.length : Int) (n : Int) x.2.1 (x.2.1.length : Int) (j : Int)) b ∧ Ev (fun k => impl_areLocks_h8 k l m x l (l.length : Int) (n : Int) x.2.1 (x.2.1.length : Int) (j : Int)) b) ?_ ?_
  · obtain ⟨b, b0, b1, b2⟩ := hnext
    refine ⟨b, b0, ev_shift ?_, ev_shift ?_⟩
    · simp only [spec_GoodLocks_h8_eq, ev_ite_iff]
      rw [if_neg (by omega)]
      exact b1
    · simp only [impl_areLocks_h8_eq, ev_ite_iff]
      rw [if_neg (by omega)]
      exact b2
  · intro j w rs hj hw _ ih
    by_cases hok : txnB w.1 = true ∧ modeB w.2 = true ∧ ((0 : Int) < (j : Int) → ¬ w.1 ≤ (rdT HoldK x.2.1 ((j : Int) - 1)).1) ∧ (w.2 = 2 → ¬ (1 : Int) < (x.2.1.length : Int))
    · obtain ⟨k1, k2, k3, k4⟩ := hok
      have k0 : holdB w = true := by simp [holdB, k1, k2]
      obtain ⟨b, b0, b1, b2⟩ := ih
      refine ⟨b, b0, ev_shift ?_, ev_shift ?_⟩
      · simp only [spec_GoodLocks_h8_eq, rdT_get (e := HoldK) hw, wrap_nat (show j < 9223372036854775807 by omega), wrap_pred (show j < 9223372036854775807 by omega), ev_bind_iff (l4Hold_ev w), ev_ite_iff, ev_some_iff, ev_none_iff, k0]
        rw [if_pos (by omega), if_pos (by omega), if_pos (by omega)]
        repeat' split
        all_goals first | exact b1 | omega | simp_all
      · simp only [impl_areLocks_h8_eq, rdT_get (e := HoldK) hw, wrap_nat (show j < 9223372036854775807 by omega), wrap_pred (show j < 9223372036854775807 by omega), ev_bind_iff (isTxn_ev _), ev_bind_iff (isMode_ev _), ev_ite_iff, ev_some_iff, ev_none_iff, k1, k2]
        rw [if_pos (by omega), if_pos (by omega), if_pos (by omega)]
        repeat' split
        all_goals first | exact b2 | omega | simp_all
    · refine ⟨false, fun h => (by cases h), ev_shift ?_, ev_shift ?_⟩
      · simp only [spec_GoodLocks_h8_eq, rdT_get (e := HoldK) hw, wrap_nat (show j < 9223372036854775807 by omega), wrap_pred (show j < 9223372036854775807 by omega), ev_bind_iff (l4Hold_ev w), ev_ite_iff, ev_some_iff, ev_none_iff]
        rw [if_pos (by omega), if_pos (by omega), if_pos (by omega)]
        clear ih hnext
        cases p1 : txnB w.1 with
        | false => have q0 : holdB w = false := by simp [holdB, p1]
                   simp [q0]
        | true =>
        cases p2 : modeB w.2 with
        | false => have q0 : holdB w = false := by simp [holdB, p2]
                   simp [q0]
        | true =>
        have q0 : holdB w = true := by simp [holdB, p1, p2]
        simp only [q0]
        by_cases c0 : (0 : Int) < (j : Int)
        · have d1 : (0 : Int) ≤ (j : Int) - 1 := by omega
          have d2 : (j : Int) - 1 < (x.2.1.length : Int) := by omega
          by_cases c1 : w.1 ≤ (rdT HoldK x.2.1 ((j : Int) - 1)).1
          · simp only [if_pos c0, if_pos d1, if_pos d2, if_pos c1]; simp
          · by_cases c2 : w.2 = 2
            · by_cases c3 : (1 : Int) < (x.2.1.length : Int)
              · simp only [if_pos c0, if_pos d1, if_pos d2, if_neg c1, if_pos c2, if_pos c3]; simp
              · exact absurd ⟨p1, p2, fun _ => c1, fun _ => c3⟩ hok
            · exact absurd ⟨p1, p2, fun _ => c1, fun h => absurd h c2⟩ hok
        · by_cases c2 : w.2 = 2
          · by_cases c3 : (1 : Int) < (x.2.1.length : Int)
            · simp only [if_neg c0, if_pos c2, if_pos c3]; simp
            · exact absurd ⟨p1, p2, fun h => absurd h c0, fun _ => c3⟩ hok
          · exact absurd ⟨p1, p2, fun h => absurd h c0, fun h => absurd h c2⟩ hok
      · simp only [impl_areLocks_h8_eq, rdT_get (e := HoldK) hw, wrap_nat (show j < 9223372036854775807 by omega), wrap_pred (show j < 9223372036854775807 by omega), ev_bind_iff (isTxn_ev _), ev_bind_iff (isMode_ev _), ev_ite_iff, ev_some_iff, ev_none_iff]
        rw [if_pos (by omega), if_pos (by omega), if_pos (by omega)]
        clear ih hnext
        cases p1 : txnB w.1 with
        | false => simp
        | true =>
        cases p2 : modeB w.2 with
        | false => simp
        | true =>
        by_cases c0 : (0 : Int) < (j : Int)
        · have d1 : (0 : Int) ≤ (j : Int) - 1 := by omega
          have d2 : (j : Int) - 1 < (x.2.1.length : Int) := by omega
          by_cases c1 : w.1 ≤ (rdT HoldK x.2.1 ((j : Int) - 1)).1
          · simp only [if_pos c0, if_pos d1, if_pos d2, if_pos c1]; simp
          · by_cases c2 : w.2 = 2
            · by_cases c3 : (1 : Int) < (x.2.1.length : Int)
              · simp only [if_pos c0, if_pos d1, if_pos d2, if_neg c1, if_pos c2, if_pos c3]; simp
              · exact absurd ⟨p1, p2, fun _ => c1, fun _ => c3⟩ hok
            · exact absurd ⟨p1, p2, fun _ => c1, fun h => absurd h c2⟩ hok
        · by_cases c2 : w.2 = 2
          · by_cases c3 : (1 : Int) < (x.2.1.length : Int)
            · simp only [if_neg c0, if_pos c2, if_pos c3]; simp
            · exact absurd ⟨p1, p2, fun h => absurd h c0, fun _ => c3⟩ hok
          · exact absurd ⟨p1, p2, fun h => absurd h c0, fun h => absurd h c2⟩ hok
/-- what good locks are -/
structure Good (l : List LockT) (n : Nat) : Prop where
  rise : ∀ i y x, n ≤ i → 0 < i → l[i - 1]? = some y → l[i]? = some x → lessS y.1 x.1 = true
  dec : ∀ i x, n ≤ i → l[i]? = some x → decFrom x.2.2 0
  wl : ∀ i x, n ≤ i → l[i]? = some x → x.2.2.length ≤ 8
  len : l.length ≤ 20
theorem locks_ev (l : List LockT) (hl : l.length ≤ 1048576) (hB : ∀ x ∈ l, szBLock x) : ∃ b, (b = true → Good l 0) ∧ Ev (fun k => spec_GoodLocks k l) b ∧ Ev (fun k => impl_areLocks k l) b := by
  have key := drop_ind0 l (fun n rs => ∀ ws m, Rel2 ws m → ws.length ≤ 8 * n → ∃ b, (b = true → Good l n) ∧ Ev (fun k => spec_GoodLocks_h3 k l ws l (l.length : Int) (n : Int)) b ∧ Ev (fun k => impl_areLocks_h3 k l m l (l.length : Int) (n : Int)) b) ?_ ?_
  · obtain ⟨b, b0, b1, b2⟩ := key [] [] (fun n => rfl) (by simp)
    exact ⟨b, b0, ev_congr (fun k => spec_GoodLocks_eq k l) b1, ev_congr (fun k => impl_areLocks_eq k l) b2⟩
  · intro ws m hr _
    refine ⟨decide ((l.length : Int) ≤ 20), fun h => ⟨fun i y x hi _ _ hx => ?_, fun i x hi hx => ?_, fun i x hi hx => ?_, by have := of_decide_eq_true h; omega⟩, ev_last fun k => by rw [spec_GoodLocks_h3_eq, if_neg (by omega)], ev_last fun k => by rw [impl_areLocks_h3_eq, if_neg (by omega)]⟩
    all_goals (have := (List.getElem?_eq_some_iff.1 hx).1; omega)
  · intro n x rs hn hx _ ih ws m hr hlen
    obtain ⟨s1, s2, s3⟩ := hB x (List.mem_of_getElem? hx)
    by_cases hok : keyB x.1 = true ∧ ((0 : Int) < (n : Int) → lessS (rdT LockK l ((n : Int) - 1)).1 x.1 = true) ∧ ¬ (x.2.1.length : Int) = 0 ∧ ¬ (8 : Int) < (x.2.2.length : Int)
    · obtain ⟨k1, k2, k3, k4⟩ := hok
      obtain ⟨b, b0, b1, b2⟩ := holds_ev l hl x n hn s2 ws m (waits_ev l hl x n hn s2 (by omega) ih ws m hr hlen)
      have gd : b = true → Good l n := fun h => by
        obtain ⟨g, hdec⟩ := b0 h
        refine ⟨fun i y x' hi h0 hy hx' => ?_, fun i x' hi hx' => ?_, fun i x' hi hx' => ?_, g.len⟩
        · rcases Nat.eq_or_lt_of_le hi with e | hlt
          · subst e
            rw [hx] at hx'; cases hx'
            have := k2 (by omega)
            rw [show (n : Int) - 1 = ((n - 1 : Nat) : Int) by omega, rdT_get (e := LockK) hy] at this
            exact this
          · exact g.rise i y x' hlt h0 hy hx'
        · rcases Nat.eq_or_lt_of_le hi with e | hlt
          · subst e
            rw [hx] at hx'; cases hx'
            exact hdec
          · exact g.dec i x' hlt hx'
        · rcases Nat.eq_or_lt_of_le hi with e | hlt
          · subst e
            rw [hx] at hx'; cases hx'
            omega
          · exact g.wl i x' hlt hx'
      refine ⟨b, gd, ev_shift ?_, ev_shift ?_⟩
      · simp only [spec_GoodLocks_h3_eq, rdT_get (e := LockK) hx, wrap_pred (show n < 9223372036854775807 by omega), ev_bind_iff (l1Key_ev x.1 (by omega)), ev_ite_iff, ev_some_iff, ev_none_iff, k1]
        rw [if_pos (by omega), if_pos (by omega), if_pos (by omega)]
        repeat' split
        all_goals first | exact b1 | omega | simp_all
      · simp only [impl_areLocks_h3_eq, rdT_get (e := LockK) hx, wrap_pred (show n < 9223372036854775807 by omega), ev_bind_iff (isKey_ev x.1), ev_ite_iff, ev_some_iff, ev_none_iff, k1]
        rw [if_pos (by omega), if_pos (by omega), if_pos (by omega)]
        repeat' split
        all_goals first | exact b2 | omega | simp_all
    · refine ⟨false, fun h => (by cases h), ev_shift ?_, ev_shift ?_⟩
      · simp only [spec_GoodLocks_h3_eq, rdT_get (e := LockK) hx, wrap_pred (show n < 9223372036854775807 by omega), ev_bind_iff (l1Key_ev x.1 (by omega)), ev_ite_iff, ev_some_iff, ev_none_iff]
        rw [if_pos (by omega), if_pos (by omega), if_pos (by omega)]
        clear ih
        cases p1 : keyB x.1 with
        | false => simp
        | true =>
        by_cases c2 : (x.2.1.length : Int) = 0
        · by_cases c0 : (0 : Int) < (n : Int)
          · have d1 : (0 : Int) ≤ (n : Int) - 1 := by omega
            have d2 : (n : Int) - 1 < (l.length : Int) := by omega
            cases c1 : lessS (rdT LockK l ((n : Int) - 1)).1 x.1 <;> simp only [if_pos c0, if_pos d1, if_pos d2, if_pos c2] <;> simp
          · simp only [if_neg c0, if_pos c2]; simp
        · by_cases c3 : (8 : Int) < (x.2.2.length : Int)
          · by_cases c0 : (0 : Int) < (n : Int)
            · have d1 : (0 : Int) ≤ (n : Int) - 1 := by omega
              have d2 : (n : Int) - 1 < (l.length : Int) := by omega
              cases c1 : lessS (rdT LockK l ((n : Int) - 1)).1 x.1 <;> simp only [if_pos c0, if_pos d1, if_pos d2, if_neg c2, if_pos c3] <;> simp
            · simp only [if_neg c0, if_neg c2, if_pos c3]; simp
          · by_cases c0 : (0 : Int) < (n : Int)
            · have d1 : (0 : Int) ≤ (n : Int) - 1 := by omega
              have d2 : (n : Int) - 1 < (l.length : Int) := by omega
              cases c1 : lessS (rdT LockK l ((n : Int) - 1)).1 x.1 with
              | false => simp only [if_pos c0, if_pos d1, if_pos d2]; simp
              | true => exact absurd ⟨p1, fun _ => c1, c2, c3⟩ hok
            · exact absurd ⟨p1, fun h => absurd h c0, c2, c3⟩ hok
      · simp only [impl_areLocks_h3_eq, rdT_get (e := LockK) hx, wrap_pred (show n < 9223372036854775807 by omega), ev_bind_iff (isKey_ev x.1), ev_ite_iff, ev_some_iff, ev_none_iff]
        rw [if_pos (by omega), if_pos (by omega), if_pos (by omega)]
        clear ih
        cases p1 : keyB x.1 with
        | false => simp
        | true =>
        by_cases c2 : (x.2.1.length : Int) = 0
        · by_cases c0 : (0 : Int) < (n : Int)
          · have d1 : (0 : Int) ≤ (n : Int) - 1 := by omega
            have d2 : (n : Int) - 1 < (l.length : Int) := by omega
            cases c1 : lessS (rdT LockK l ((n : Int) - 1)).1 x.1 <;> simp only [if_pos c0, if_pos d1, if_pos d2, if_pos c2] <;> simp
          · simp only [if_neg c0, if_pos c2]; simp
        · by_cases c3 : (8 : Int) < (x.2.2.length : Int)
          · by_cases c0 : (0 : Int) < (n : Int)
            · have d1 : (0 : Int) ≤ (n : Int) - 1 := by omega
              have d2 : (n : Int) - 1 < (l.length : Int) := by omega
              cases c1 : lessS (rdT LockK l ((n : Int) - 1)).1 x.1 <;> simp only [if_pos c0, if_pos d1, if_pos d2, if_neg c2, if_pos c3] <;> simp
            · simp only [if_neg c0, if_neg c2, if_pos c3]; simp
          · by_cases c0 : (0 : Int) < (n : Int)
            · have d1 : (0 : Int) ≤ (n : Int) - 1 := by omega
              have d2 : (n : Int) - 1 < (l.length : Int) := by omega
              cases c1 : lessS (rdT LockK l ((n : Int) - 1)).1 x.1 with
              | false => simp only [if_pos c0, if_pos d1, if_pos d2]; simp
              | true => exact absurd ⟨p1, fun _ => c1, c2, c3⟩ hok
            · exact absurd ⟨p1, fun h => absurd h c0, c2, c3⟩ hok

/-! ### markhold -/
/-! marks on rows of holds -/
def emHold (m : Int) : HoldT := (m, m + 1)
theorem upHold {xs : List HoldT} {n : Nat} {x : HoldT} (hx : xs[n]? = some x) (v0 v1 : Int) :
    upAt HoldK [1] (.int .i64) v1 (upAt HoldK [0] (.int .i64) v0 xs (n : Int)) (n : Int) = xs.set n (v0, v1) := by
  have hn : n < xs.length := (List.getElem?_eq_some_iff.1 hx).1
  rw [upAt_get (e := HoldK) (k := .int .i64) (w := (v0, x.2)) hx rfl, upAt_set (e := HoldK) (k := .int .i64) (w := (v0, v1)) hn rfl]
theorem upLenHold (p : List Nat) (k : Kind) (y : k.T) (l : List HoldT) (i : Int) : @List.length HoldT (upAt HoldK p k y l i) = @List.length HoldT l := upAt_len (e := HoldK)
theorem markHoldS_ev (l : List HoldT) (m : Int) (h0 : 0 ≤ m) (hm : m + 2 * l.length ≤ 4611686018427387904) : Ev (fun k => laws_markHoldS k l m) (mkList emHold m 2 l.length, m + 2 * (l.length : Int)) := by
  refine ev_congr (fun k => laws_markHoldS_eq k l m) ?_
  refine mark_loop (fun k l c i => laws_markHoldS_h2 k l c i) emHold m 2 l.length (fun k xs c hx => ?_) (fun n xs r hn hx H => ?_) l rfl
  · rw [laws_markHoldS_h2_eq, if_neg (by omega)]
  · have e1 : wrap64 (m + 2 * (n : Int) + 1) = m + 2 * (n : Int) + 1 := wrap_of (by omega) (by omega)
    have e2 : wrap64 (m + 2 * (n : Int) + 1 + 1) = m + 2 * ((n + 1 : Nat) : Int) := by rw [wrap_of (by omega) (by omega)]; omega
    have hnx : n < xs.length := by omega
    have hg : xs[n]? = some xs[n] := List.getElem?_eq_getElem hnx
    generalize xs[n] = x at hg
    have d2 : (n : Int) < (xs.length : Int) := by omega
    have d3 : (0 : Int) ≤ (n : Int) := by omega
    refine ev_shift ?_
    simp only [laws_markHoldS_h2_eq, ev_ite_iff, e1, e2, wrap_nat (show n < 9223372036854775807 by omega), upLenHold, if_pos d2, if_pos d3, upHold hg]
    exact H

/-! ### cats -/
theorem wrap_i64 {x : Int} (h0 : -9223372036854775808 ≤ x) (h1 : x ≤ 9223372036854775807) : IntKind.wrap .i64 x = x := by
  rw [← wrapK_eq]; unfold wrapK; rw [if_pos rfl]; exact wrap_of h0 h1
theorem catS_size0 (a b : ByteArray) : (catS a b).size = a.size + b.size := by
  show (catS a b).data.size = a.data.size + b.data.size
  simp [catS]

/-! ### mtext -/
theorem mt_ex : ∀ (n : Nat) (acc : ByteArray), acc.size + n ≤ 1099511627776 → ∃ r, Ev (fun k => laws_markText_h4 k (n : Int) acc) r := by
  intro n
  induction n using Nat.strongRecOn with
  | ind n ih =>
    intro acc ha
    by_cases h0 : n = 0
    · subst h0
      refine ⟨catS (ByteArray.mk (Array.mk (List.cons 109 []))) acc, ev_last fun k => ?_⟩
      rw [laws_markText_h4_eq, if_neg (by omega), if_pos (by have : (ByteArray.mk (Array.mk (List.cons 109 []))).size = 1 := rfl; omega)]
    · have hd : Int.tdiv (n : Int) 10 = ((n / 10 : Nat) : Int) := by rw [Int.tdiv_eq_ediv_of_nonneg (by omega)]; omega
      obtain ⟨r, hr⟩ := ih (n / 10) (by omega) (catS (bytesOf [IntKind.wrap .u8 (wrap64 (48 + Int.tmod (n : Int) 10))]) acc) (by
        rw [catS_size0]
        have : (bytesOf [IntKind.wrap .u8 (wrap64 (48 + Int.tmod (n : Int) 10))]).size = 1 := rfl
        omega)
      refine ⟨r, ev_shift ?_⟩
      simp only [laws_markText_h4_eq, ev_ite_iff, hd, wrap_i64 (x := ((n / 10 : Nat) : Int)) (by omega) (by omega)]
      have : (bytesOf [IntKind.wrap .u8 (wrap64 (48 + Int.tmod (n : Int) 10))]).size = 1 := rfl
      rw [if_pos (by omega), if_pos (by omega)]
      exact hr
theorem mark_ex (n : Int) (hn : n ≤ 1073741824) : ∃ r, Ev (fun k => laws_markText k n) r := by
  by_cases h : n ≤ 0
  · exact ⟨_, ev_congr (fun k => laws_markText_eq k n) (ev_if_pos h (ev_some _))⟩
  · obtain ⟨r, hr⟩ := mt_ex n.toNat (ByteArray.mk (Array.mk [])) (by have : (ByteArray.mk (Array.mk [])).size = 0 := rfl; omega)
    refine ⟨r, ev_congr (fun k => laws_markText_eq k n) (ev_if_neg h ?_)⟩
    rw [show ((n.toNat : Nat) : Int) = n by omega] at hr
    exact hr
open Classical in
noncomputable def mtx (n : Int) : ByteArray := if h : ∃ r, Ev (fun k => laws_markText k n) r then Classical.choose h else ByteArray.mk (Array.mk [])
theorem mtx_ev (n : Int) (hn : n ≤ 1073741824) : Ev (fun k => laws_markText k n) (mtx n) := by
  have h := mark_ex n hn
  unfold mtx
  rw [dif_pos h]
  exact Classical.choose_spec h

/-! ### mtext2 -/
/-- a mark's text, whatever the mark -/
theorem mt_ex2 : ∀ (d n : Nat) (acc : ByteArray), n < 10 ^ d → n ≤ 4611686018427387904 → acc.size + d ≤ 1099511627776 → ∃ r, Ev (fun k => laws_markText_h4 k (n : Int) acc) r := by
  intro d
  induction d with
  | zero =>
    intro n acc hn _ ha
    have : n = 0 := by simpa using hn
    subst this
    refine ⟨catS (ByteArray.mk (Array.mk (List.cons 109 []))) acc, ev_last fun k => ?_⟩
    rw [laws_markText_h4_eq, if_neg (by omega), if_pos (by have : (ByteArray.mk (Array.mk (List.cons 109 []))).size = 1 := rfl; omega)]
  | succ d ih =>
    intro n acc hn hb ha
    by_cases h0 : n = 0
    · subst h0
      refine ⟨catS (ByteArray.mk (Array.mk (List.cons 109 []))) acc, ev_last fun k => ?_⟩
      rw [laws_markText_h4_eq, if_neg (by omega), if_pos (by have : (ByteArray.mk (Array.mk (List.cons 109 []))).size = 1 := rfl; omega)]
    · have hd : Int.tdiv (n : Int) 10 = ((n / 10 : Nat) : Int) := by rw [Int.tdiv_eq_ediv_of_nonneg (by omega)]; omega
      obtain ⟨r, hr⟩ := ih (n / 10) (catS (bytesOf [IntKind.wrap .u8 (wrap64 (48 + Int.tmod (n : Int) 10))]) acc) (by
        rw [Nat.pow_succ] at hn; omega) (by omega) (by
        rw [catS_size0]
        have : (bytesOf [IntKind.wrap .u8 (wrap64 (48 + Int.tmod (n : Int) 10))]).size = 1 := rfl
        omega)
      refine ⟨r, ev_shift ?_⟩
      simp only [laws_markText_h4_eq, ev_ite_iff, hd, wrap_i64 (x := ((n / 10 : Nat) : Int)) (by omega) (by omega)]
      have : (bytesOf [IntKind.wrap .u8 (wrap64 (48 + Int.tmod (n : Int) 10))]).size = 1 := rfl
      rw [if_pos (by omega), if_pos (by omega)]
      exact hr
theorem mark_ex2 (n : Int) (hn : n ≤ 4611686018427387904) : ∃ r, Ev (fun k => laws_markText k n) r := by
  by_cases h : n ≤ 0
  · exact ⟨_, ev_congr (fun k => laws_markText_eq k n) (ev_if_pos h (ev_some _))⟩
  · obtain ⟨r, hr⟩ := mt_ex2 19 n.toNat (ByteArray.mk (Array.mk [])) (by omega) (by omega) (by have : (ByteArray.mk (Array.mk [])).size = 0 := rfl; omega)
    refine ⟨r, ev_congr (fun k => laws_markText_eq k n) (ev_if_neg h ?_)⟩
    rw [show ((n.toNat : Nat) : Int) = n by omega] at hr
    exact hr

/-! ### marklock -/
/-! marks on locks: that they come to an end -/
theorem upLock {xs : List LockT} {n : Nat} {x : LockT} (hx : xs[n]? = some x) (v : ByteArray) : upAt LockK [0] .str v xs (n : Int) = xs.set n (v, x.2) := upAt_get (e := LockK) (k := .str) hx rfl
theorem markLockS_ex (l : List LockT) (hl : l.length ≤ 1048576) (hB : ∀ x ∈ l, szBLock x) : ∃ r, Ev (fun k => laws_markLockS k l 1) r ∧ 0 ≤ r.2 := by
  have key := up_ind l.length (fun n => ∀ (xs : List LockT) (c : Int), xs.length = l.length → xs.drop n = l.drop n → 0 ≤ c → c ≤ 1 + 4194305 * (n : Int) → ∃ r, Ev (fun k => laws_markLockS_h2 k xs c (n : Int)) r ∧ 0 ≤ r.2) ?_ ?_ 0 (by omega)
  · obtain ⟨r, h1, h2⟩ := key l 1 rfl rfl (by omega) (by omega)
    exact ⟨r, ev_congr (fun k => laws_markLockS_eq k l 1) h1, h2⟩
  · intro xs c hx _ h0 _
    exact ⟨(xs, c), ev_last fun k => by rw [laws_markLockS_h2_eq, if_neg (by omega)], h0⟩
  · intro n hn ih xs c hx hd h0 hc
    have hg : xs[n]? = some l[n] := by
      have := congrArg (fun z : List LockT => z[0]?) hd
      simp only [List.getElem?_drop, Nat.add_zero] at this
      rw [this, List.getElem?_eq_getElem hn]
    obtain ⟨s1, s2, s3⟩ := hB l[n] (List.getElem_mem hn)
    generalize l[n] = x at hg s1 s2 s3
    have hnx : n < xs.length := by omega
    obtain ⟨t, ht⟩ := mark_ex2 c (by omega)
    have e1 : wrap64 (c + 1) = c + 1 := wrap_of (by omega) (by omega)
    have m1 := markHoldS_ev x.2.1 (c + 1) (by omega) (by omega)
    have m2 := markHoldS_ev x.2.2 (c + 1 + 2 * (x.2.1.length : Int)) (by omega) (by omega)
    have d2 : (n : Int) < (xs.length : Int) := by omega
    have d3 : (0 : Int) ≤ (n : Int) := by omega
    generalize mkList emHold (c + 1) 2 x.2.1.length = q1 at m1
    generalize mkList emHold (c + 1 + 2 * (x.2.1.length : Int)) 2 x.2.2.length = q2 at m2
    obtain ⟨r, h1, h2⟩ := ih (((xs.set n (t, x.2)).set n (t, (q1, x.2.2))).set n (t, (q1, q2))) (c + 1 + 2 * (x.2.1.length : Int) + 2 * (x.2.2.length : Int)) (by simpa using hx) (by
      rw [List.drop_set_of_lt (by omega), List.drop_set_of_lt (by omega), List.drop_set_of_lt (by omega)]
      have := congrArg (List.drop 1) hd
      simpa only [List.drop_drop] using this) (by omega) (by omega)
    refine ⟨r, ev_shift ?_, h2⟩
    clear ih hd hB
    have g1 : ((xs.set n (t, x.2)) : List LockT)[n]? = some (t, x.2) := List.getElem?_set_self hnx
    have g2 : (((xs.set n (t, x.2)).set n (t, (q1, x.2.2))) : List LockT)[n]? = some (t, (q1, x.2.2)) := List.getElem?_set_self (by simpa using hnx)
    simp only [laws_markLockS_h2_eq, ev_ite_iff, ev_bind_iff ht, upLock hg, rdT_get (e := LockK) g1, e1, ev_bind_iff m1, Int.toNat_natCast, List.length_set, rdT_get (e := LockK) g2, ev_bind_iff m2, wrap_nat (show n < 9223372036854775807 by omega), if_pos d2, if_pos d3]
    exact h1

/-! ### pair -/
abbrev PairT := Int × Int
abbrev PairK : Kind := .struct (.pair (.int .i64) (.int .i64))
theorem eqPair_ev (x : PairT) : Ev (fun k => laws_eqPair k x x) true := ev_congr (fun k => laws_eqPair_eq k x x) (by simp [ev_some_iff])
theorem eqPairS_ev (l) (hl : l.length ≤ 140737488355328) : Ev (fun k => laws_eqPairS k l l) true := by
  refine ev_congr (fun k => laws_eqPairS_eq k l l) ?_
  simp only [ev_ite_iff]
  rw [if_neg (by simp)]
  exact eq_row (l := l) (fun k a b i => laws_eqPairS_h4_eq k a b i) (fun x _ => eqPair_ev x) (by omega)
def emPair (m : Int) : PairT := (m, m + 1)
theorem upPair {xs : List PairT} {n : Nat} {x : PairT} (hx : xs[n]? = some x) (v0 v1 : Int) :
    upAt PairK [1] (.int .i64) v1 (upAt PairK [0] (.int .i64) v0 xs (n : Int)) (n : Int) = xs.set n (v0, v1) := by
  have hn : n < xs.length := (List.getElem?_eq_some_iff.1 hx).1
  rw [upAt_get (e := PairK) (k := .int .i64) (w := (v0, x.2)) hx rfl, upAt_set (e := PairK) (k := .int .i64) (w := (v0, v1)) hn rfl]
theorem upLenPair (p : List Nat) (k : Kind) (y : k.T) (l : List PairT) (i : Int) : @List.length PairT (upAt PairK p k y l i) = @List.length PairT l := upAt_len (e := PairK)
theorem markPairS_ev (l : List PairT) (m : Int) (h0 : 0 ≤ m) (hm : m + 2 * l.length ≤ 1073741824) : Ev (fun k => laws_markPairS k l m) (mkList emPair m 2 l.length, m + 2 * (l.length : Int)) := by
  refine ev_congr (fun k => laws_markPairS_eq k l m) ?_
  refine mark_loop (fun k l c i => laws_markPairS_h2 k l c i) emPair m 2 l.length (fun k xs c hx => ?_) (fun n xs r hn hx H => ?_) l rfl
  · rw [laws_markPairS_h2_eq, if_neg (by omega)]
  · have e1 : wrap64 (m + 2 * (n : Int) + 1) = m + 2 * (n : Int) + 1 := wrap_of (by omega) (by omega)
    have e2 : wrap64 (m + 2 * (n : Int) + 1 + 1) = m + 2 * ((n + 1 : Nat) : Int) := by rw [wrap_of (by omega) (by omega)]; omega
    have hnx : n < xs.length := by omega
    have hg : xs[n]? = some xs[n] := List.getElem?_eq_getElem hnx
    generalize xs[n] = x at hg
    have d2 : (n : Int) < (xs.length : Int) := by omega
    have d3 : (0 : Int) ≤ (n : Int) := by omega
    refine ev_shift ?_
    simp only [laws_markPairS_h2_eq, ev_ite_iff, e1, e2, wrap_nat (show n < 9223372036854775807 by omega), upLenPair, if_pos d2, if_pos d3, upPair hg]
    exact H
theorem heldPairS_ev (m : Int) (N : Nat) (h0 : 0 ≤ m) (hm : m + 2 * N ≤ 1073741824) : Ev (fun k => laws_heldPairS k (mkList emPair m 2 N) m) (m + 2 * (N : Int)) := by
  refine ev_congr (fun k => laws_heldPairS_eq k _ m) ?_
  have hl := mkList_len emPair m 2 N
  refine held_loop (fun k c i => laws_heldPairS_h2 k (mkList emPair m 2 N) c i) emPair m 2 N (fun k c => ?_) (fun n r hn hx H => ?_)
  · rw [laws_heldPairS_h2_eq, if_neg (by omega)]
  · have e1 : wrap64 (m + 2 * (n : Int) + 1) = m + 2 * (n : Int) + 1 := wrap_of (by omega) (by omega)
    have e2 : wrap64 (m + 2 * (n : Int) + 1 + 1) = m + 2 * ((n + 1 : Nat) : Int) := by rw [wrap_of (by omega) (by omega)]; omega
    have d1 : (n : Int) < ((mkList emPair m 2 N).length : Int) := by omega
    have d3 : (0 : Int) ≤ (n : Int) := by omega
    refine ev_shift ?_
    simp only [laws_heldPairS_h2_eq, ev_ite_iff, ev_some_iff, ev_none_iff, e1, e2, wrap_nat (show n < 9223372036854775807 by omega), rdT_get (e := PairK) hx, if_pos d1, if_pos d3, emPair]
    simpa using H

/-! ### sortpair -/
/-! pairs sorted, and doubles struck out -/
theorem isNaN_eq (k : Nat) (a : Int) : cmp_isNaN k a = some false := by rw [cmp_isNaN_eq]; simp
def cmpI (a b : Int) : Int := if a < b then -1 else if b < a then 1 else 0
theorem compare_eq (k : Nat) (a b : Int) : cmp_Compare k a b = some (cmpI a b) := by
  rw [cmp_Compare_eq, isNaN_eq, isNaN_eq]
  simp only [Option.bind_some, Bool.false_eq_true, if_false]
  unfold cmpI
  by_cases h1 : a < b
  · rw [if_pos h1, if_pos h1]
  · rw [if_neg h1, if_neg h1]
    by_cases h2 : b < a
    · rw [if_pos h2, if_pos h2]
    · rw [if_neg h2, if_neg h2]
theorem or_eq (k : Nat) (a b : Int) : cmp_Or (k + 3) [a, b] = some (if a ≠ 0 then a else b) := by
  have r0 : rdT (.int .i64) [a, b] 0 = a := rfl
  have r1 : rdT (.int .i64) [a, b] 1 = b := rfl
  have l2 : (([a, b] : List Int).length : Int) = 2 := rfl
  have w0 : wrap64 (0 + 1) = 1 := by rw [wrap_of (by omega) (by omega)]; rfl
  have w1 : wrap64 (1 + 1) = 2 := by rw [wrap_of (by omega) (by omega)]; rfl
  rw [cmp_Or_eq, cmp_Or_h3_eq, l2, r0, w0]
  rw [if_pos (by decide), if_pos (by decide), if_pos (by decide)]
  by_cases ha : a = 0
  · rw [if_neg (by simpa using ha), if_neg (by simpa using ha), cmp_Or_h3_eq, l2, r1, w1]
    rw [if_pos (by decide), if_pos (by decide), if_pos (by decide)]
    by_cases hb : b = 0
    · rw [if_neg (by simpa using hb), cmp_Or_h3_eq, if_neg (by decide), hb]
    · rw [if_pos hb]
  · rw [if_pos ha, if_pos ha]
theorem sortPairs1_eq (k : Nat) (x y : PairT) : impl_sortPairs_1 (k + 3) x y = some (cfPair x y) := by
  rw [impl_sortPairs_1_eq, compare_eq, compare_eq]
  simp only [Option.bind_some]
  rw [or_eq]
  simp only [Option.bind_some, Option.some.injEq]
  unfold cmpI cfPair
  by_cases h1 : x.1 < y.1
  · simp [h1]
  · by_cases h2 : y.1 < x.1
    · simp [h1, h2]
    · simp [h1, h2]
theorem sortF_ev {F : Nat → ArgsT [.val PairK, .val PairK] → Option Int} (hF : ∀ k x y, F (k + 3) (x, y, ()) = some (cfPair x y)) (l : List PairT) (hl : l.length ≤ 1073741824) : Ev (fun k => gvSortF (F k) cfPair l) (List.mergeSort l (fun x y => !(Go.Proofs.ltOf cfPair y x)), ()) := by
  refine ⟨3, fun k hk => ?_⟩
  obtain ⟨k, rfl⟩ : ∃ j, k = j + 3 := ⟨k - 3, by omega⟩
  show gvSortF (F (k + 3)) cfPair l = _
  unfold gvSortF
  rw [if_pos ⟨hF k, by omega⟩]
/-- doubles that stand side by side are struck out -/
def cpFrom (p : PairT) : List PairT → List PairT
  | [] => []
  | y :: r => if y = p then cpFrom p r else y :: cpFrom y r
def cpB : List PairT → List PairT
  | [] => []
  | x :: r => x :: cpFrom x r
theorem samePair (x y : PairT) : Bool.and (decide (x.1 = y.1)) (decide (x.2 = y.2)) = decide (x = y) := by
  rw [Bool.eq_iff_iff]
  show (decide (x.1 = y.1) && decide (x.2 = y.2)) = true ↔ _
  simp only [Bool.and_eq_true, decide_eq_true_eq]
  exact ⟨fun h => Prod.ext h.1 h.2, fun h => by rw [h]; exact ⟨rfl, rfl⟩⟩
theorem cp_arith (n j a L : Nat) (h : n + j < L) (hj : 1 ≤ j) (ha : a + 1 ≤ n + j) (hL : L ≤ 1073741824) :
    (n : Int) + (j : Int) = ((n + j : Nat) : Int) ∧ wrap64 ((j : Int) - 1) = ((j - 1 : Nat) : Int) ∧ (n : Int) + ((j - 1 : Nat) : Int) = ((n + j - 1 : Nat) : Int) ∧ wrap64 ((j : Int) + 1) = ((j + 1 : Nat) : Int) ∧ wrap64 ((a : Int) + 1) = ((a + 1 : Nat) : Int) ∧
    (j : Int) < (L : Int) - (n : Int) ∧ (0 : Int) ≤ (j : Int) ∧ (0 : Int) ≤ ((j - 1 : Nat) : Int) ∧ ((j - 1 : Nat) : Int) < (L : Int) - (n : Int) ∧ (0 : Int) ≤ (a : Int) ∧ (a : Int) < (L : Int) := by
  refine ⟨by omega, ?_, by omega, ?_, ?_, by omega, by omega, by omega, by omega, by omega, by omega⟩
  · rw [wrap_of (by omega) (by omega)]; omega
  · rw [wrap_of (by omega) (by omega)]; omega
  · rw [wrap_of (by omega) (by omega)]; omega
theorem cp_lists {s l : List PairT} {m : Nat} {y : PairT} (hm : 1 ≤ m) (hs : s.length = l.length) (hd : s.drop (m - 1) = l.drop (m - 1)) (hy : l[m]? = some y) :
    s[m - 1]? = l[m - 1]? ∧ s[m]? = some y ∧ l.drop m = y :: l.drop (m + 1) ∧ s.drop m = l.drop m := by
  refine ⟨?_, ?_, ?_, ?_⟩
  · have := congrArg (fun z : List PairT => z[0]?) hd
    simpa only [List.getElem?_drop, Nat.add_zero] using this
  · have := congrArg (fun z : List PairT => z[1]?) hd
    simp only [List.getElem?_drop] at this
    rw [show m - 1 + 1 = m by omega] at this
    rw [this, hy]
  · have hml : m < l.length := (List.getElem?_eq_some_iff.1 hy).1
    rw [List.drop_eq_getElem_cons hml]
    congr 1
    rw [List.getElem?_eq_getElem hml] at hy
    exact Option.some.inj hy
  · have := congrArg (List.drop 1) hd
    simp only [List.drop_drop] at this
    rwa [show m - 1 + 1 = m by omega] at this
theorem cp_set {s : List PairT} {a m : Nat} {y : PairT} (ha : a < m) (hm : m ≤ s.length) : (s.set a y).drop m = s.drop m ∧ (s.set a y)[a]? = some y ∧ (s.set a y).take (a + 1) = s.take a ++ [y] := by
  have h2 : (s.set a y)[a]? = some y := List.getElem?_set_self (by omega)
  refine ⟨List.drop_set_of_lt ha, h2, ?_⟩
  rw [take_snoc h2, List.take_set_of_le (Nat.le_refl _)]
theorem cp_second {l : List PairT} (hl : l.length ≤ 1073741824) (n : Nat) (hn : 1 ≤ n) : ∀ (d j : Nat) (s : List PairT) (a : Nat), n + j + d = l.length → 1 ≤ j → a + 1 ≤ n + j → s.length = l.length → s.drop (n + j - 1) = l.drop (n + j - 1) → ∀ p, l[n + j - 1]? = some p → cpB l = s.take a ++ cpFrom p (l.drop (n + j)) →
      Ev (fun k => slices_Compact_h9 k s (a : Int) ((n : Int), (l.length : Int)) (j : Int)) (cpB l) := by
  intro d
  induction d with
  | zero =>
    intro j s a hm hj ha hs hd p hp hc
    refine ev_last fun k => ?_
    have hdm : l.drop (n + j) = [] := List.drop_eq_nil_of_le (by omega)
    rw [hdm, cpFrom, List.append_nil] at hc
    have e1 : (s.take (Int.toNat (a : Int)) ++ (List.replicate (Int.toNat ((s.length : Int) - (a : Int))) ((0 : Int), (0 : Int)) ++ s.drop (Int.toNat (s.length : Int)))).length = s.length := by
      simp only [Int.toNat_natCast, List.length_append, List.length_take, List.length_replicate, List.length_drop]
      omega
    have e2 : (s.take (Int.toNat (a : Int)) ++ (List.replicate (Int.toNat ((s.length : Int) - (a : Int))) ((0 : Int), (0 : Int)) ++ s.drop (Int.toNat (s.length : Int)))).take (Int.toNat (a : Int)) = s.take a := by
      rw [Int.toNat_natCast, List.take_append_of_le_length (by rw [List.length_take]; omega), List.take_take]
      congr 1; omega
    rw [slices_Compact_h9_eq, if_neg (by omega), if_pos (by omega), if_pos (by omega), if_pos (by omega)]
    rw [if_pos (by omega), e2, hc]
  | succ d ih =>
    intro j s a hm hj ha hs hd p hp hc
    have hml : n + j < l.length := by omega
    obtain ⟨y, hy⟩ : ∃ y, l[n + j]? = some y := ⟨l[n + j], List.getElem?_eq_getElem hml⟩
    obtain ⟨sp, sy, hdr, hds⟩ := cp_lists (by omega) hs hd hy
    rw [hp] at sp
    rw [hdr, cpFrom] at hc
    have e1 : n + j = n + (j + 1) - 1 := by omega
    have hy' : l[n + (j + 1) - 1]? = some y := by rw [← e1]; exact hy
    have ihA := ih (j + 1) s a (by omega) (by omega) (by omega) hs (by rw [← e1]; exact hds) y hy'
    obtain ⟨g1, g2, g3⟩ := cp_set (s := s) (y := y) (a := a) (m := n + j) (by omega) (by omega)
    have ihB := ih (j + 1) (s.set a y) (a + 1) (by omega) (by omega) (by omega) (by rw [List.length_set]; exact hs) (by rw [← e1, g1]; exact hds) y hy'
    obtain ⟨i0, w1, i1, w2, w3, c0, c1, c2, c3, c4, c5⟩ := cp_arith n j a l.length hml hj (by omega) hl
    have c5' : (a : Int) < (s.length : Int) := by rw [hs]; exact c5
    clear hm hj hs hds hd g1 g2 hy hy' ih hml
    refine ev_shift ?_
    simp only [slices_Compact_h9_eq, i0, w1, i1, w2, w3, rdT_get (e := PairK) sp, rdT_get (e := PairK) sy, samePair, ev_ite_iff, ev_none_iff, Int.toNat_natCast]
    rw [if_pos c0, if_pos c1, if_pos c0, if_pos c2, if_pos c3]
    by_cases hyp : y = p
    · rw [if_pos hyp] at hc
      rw [if_neg (by simp [hyp])]
      exact ihA (by rw [hyp]; exact hc)
    · rw [if_neg hyp] at hc
      rw [if_pos (by simp [hyp]), if_pos c1, if_pos c0, if_pos c4, if_pos c5']
      exact ihB (by rw [hc, g3, List.append_assoc]; rfl)
theorem cp_arith1 (n L : Nat) (h : n < L) (h1 : 1 ≤ n) (hL : L ≤ 1073741824) : wrap64 ((n : Int) - 1) = ((n - 1 : Nat) : Int) ∧ wrap64 ((n : Int) + 1) = ((n + 1 : Nat) : Int) ∧ (n : Int) < (L : Int) ∧ (0 : Int) ≤ (n : Int) ∧ (0 : Int) ≤ ((n - 1 : Nat) : Int) ∧ ((n - 1 : Nat) : Int) < (L : Int) ∧ (n : Int) ≤ (L : Int) := by
  refine ⟨?_, ?_, by omega, by omega, by omega, by omega, by omega⟩
  · rw [wrap_of (by omega) (by omega)]; omega
  · rw [wrap_of (by omega) (by omega)]; omega
theorem cp_first {l : List PairT} (hl : l.length ≤ 1073741824) : ∀ (d n : Nat), n + d = l.length → 1 ≤ n → ∀ p, l[n - 1]? = some p → cpB l = l.take n ++ cpFrom p (l.drop n) → Ev (fun k => slices_Compact_h4 k l (n : Int)) (cpB l) := by
  intro d
  induction d with
  | zero =>
    intro n hn h1 p hp hc
    refine ev_last fun k => ?_
    rw [slices_Compact_h4_eq, if_neg (by omega), hc, List.drop_eq_nil_of_le (by omega), List.take_of_length_le (by omega)]
    simp [cpFrom]
  | succ d ih =>
    intro n hn h1 p hp hc
    have hml : n < l.length := by omega
    obtain ⟨y, hy⟩ : ∃ y, l[n]? = some y := ⟨l[n], List.getElem?_eq_getElem hml⟩
    obtain ⟨_, _, hdr, _⟩ := cp_lists h1 rfl rfl hy
    have ihA := ih (n + 1) (by omega) (by omega) y (by simpa using hy)
    have sec := cp_second hl n h1 d 1 l n (by omega) (Nat.le_refl _) (Nat.le_refl _) rfl rfl y (by simpa using hy)
    have ts := take_snoc hy
    obtain ⟨w1, w2, c0, c1, c2, c3, c4⟩ := cp_arith1 n l.length hml h1 hl
    clear hn h1 ih hml
    rw [hdr, cpFrom] at hc
    refine ev_shift ?_
    simp only [slices_Compact_h4_eq, w1, w2, rdT_get (e := PairK) hp, rdT_get (e := PairK) hy, samePair, ev_ite_iff, ev_none_iff]
    rw [if_pos c0, if_pos c1, if_pos c0, if_pos c2, if_pos c3]
    by_cases hyp : y = p
    · rw [if_pos (by simp [hyp]), if_pos c1, if_pos c4]
      rw [if_pos hyp] at hc
      exact sec (by rw [hyp]; exact hc)
    · rw [if_neg (by simp [hyp])]
      rw [if_neg hyp] at hc
      exact ihA (by rw [hc, ts]; simp)
theorem compact_ev (l : List PairT) (hl : l.length ≤ 1073741824) : Ev (fun k => slices_Compact k l) (cpB l) := by
  refine ev_congr (fun k => slices_Compact_eq k l) ?_
  by_cases h2 : l.length < 2
  · refine ev_if_pos (by omega) ?_
    have : cpB l = l := by
      match l, h2 with
      | [], _ => rfl
      | [x], _ => rfl
      | x :: y :: r, h => simp at h; omega
    rw [this]; exact ev_some _
  refine ev_if_neg (by omega) ?_
  match l, h2, hl with
  | x :: r, h2, hl => exact cp_first hl r.length 1 (by simp [Nat.add_comm]) (Nat.le_refl _) x rfl rfl
  | [], h2, _ => exact absurd (by simp) h2
def ltP (x y : PairT) : Prop := x.1 < y.1 ∨ x.1 = y.1 ∧ x.2 < y.2
def leP (x y : PairT) : Prop := x = y ∨ ltP x y
theorem cpFrom_mem : ∀ (r : List PairT) (p z : PairT), z ∈ p :: cpFrom p r ↔ z ∈ p :: r
  | [], p, z => by simp [cpFrom]
  | y :: r, p, z => by
    rw [cpFrom]
    by_cases h : y = p
    · rw [if_pos h, cpFrom_mem r p z, h]; simp
    · rw [if_neg h]
      have := cpFrom_mem r y z
      simp only [List.mem_cons] at *
      rw [this]
theorem cpFrom_lt : ∀ (r : List PairT) (p : PairT), (p :: r).Pairwise leP → (p :: cpFrom p r).Pairwise ltP
  | [], p, _ => by simp [cpFrom]
  | y :: r, p, h => by
    rw [cpFrom]
    have h1 := List.pairwise_cons.1 h
    by_cases hyp : y = p
    · rw [if_pos hyp]
      exact cpFrom_lt r p (by rw [← hyp]; exact h1.2)
    · rw [if_neg hyp]
      have ih := cpFrom_lt r y h1.2
      refine List.pairwise_cons.2 ⟨fun z hz => ?_, ih⟩
      have hpy : ltP p y := (h1.1 y (by simp)).resolve_left (fun e => hyp e.symm)
      rcases List.mem_cons.1 hz with rfl | hz
      · exact hpy
      · have := (List.pairwise_cons.1 ih).1 z hz
        unfold ltP at *
        omega
theorem sorted_le (l : List PairT) : (List.mergeSort l (fun x y => !(Go.Proofs.ltOf cfPair y x))).Pairwise leP := by
  have h := List.pairwise_mergeSort (le := fun x y : PairT => !(Go.Proofs.ltOf cfPair y x)) (fun a b c h1 h2 => ?_) (fun a b => ?_) l
  · refine h.imp fun {a b} hab => ?_
    simp only [Bool.not_eq_true', ← Bool.not_eq_true, ltPair_iff] at hab
    unfold leP ltP
    by_cases e : a = b
    · exact .inl e
    · right
      have : ¬ (a.1 = b.1 ∧ a.2 = b.2) := fun h => e (Prod.ext h.1 h.2)
      omega
  · simp only [Bool.not_eq_true', ← Bool.not_eq_true, ltPair_iff] at *
    omega
  · simp only [Bool.or_eq_true, Bool.not_eq_true', ← Bool.not_eq_true, ltPair_iff]
    omega
theorem lt_unique : ∀ {a b : List PairT}, a.Pairwise ltP → b.Pairwise ltP → (∀ z, z ∈ a ↔ z ∈ b) → a = b
  | [], [], _, _, _ => rfl
  | [], y :: b, _, _, h => by have := (h y).2 (by simp); cases this
  | x :: a, [], _, _, h => by have := (h x).1 (by simp); cases this
  | x :: a, y :: b, h1, h2, h => by
    obtain ⟨p1, q1⟩ := List.pairwise_cons.1 h1
    obtain ⟨p2, q2⟩ := List.pairwise_cons.1 h2
    have irr : ∀ z : PairT, ¬ ltP z z := fun z hz => by unfold ltP at hz; omega
    have asym : ∀ z w : PairT, ltP z w → ¬ ltP w z := fun z w h h' => by unfold ltP at *; omega
    have hxy : x = y := by
      rcases List.mem_cons.1 ((h x).1 (by simp)) with e | hx
      · exact e
      · rcases List.mem_cons.1 ((h y).2 (by simp)) with e | hy
        · exact e.symm
        · exact absurd (p1 y hy) (asym _ _ (p2 x hx))
    subst hxy
    congr 1
    refine lt_unique q1 q2 fun z => ?_
    constructor
    · intro hz
      rcases List.mem_cons.1 ((h z).1 (List.mem_cons_of_mem _ hz)) with e | h'
      · subst e; exact absurd (p1 _ hz) (irr _)
      · exact h'
    · intro hz
      rcases List.mem_cons.1 ((h z).2 (List.mem_cons_of_mem _ hz)) with e | h'
      · subst e; exact absurd (p2 _ hz) (irr _)
      · exact h'
theorem cpB_mem (l : List PairT) (z : PairT) : z ∈ cpB l ↔ z ∈ l := by
  cases l with
  | nil => rfl
  | cons x r => exact cpFrom_mem r x z
theorem cpB_lt {l : List PairT} (h : l.Pairwise leP) : (cpB l).Pairwise ltP := by
  cases l with
  | nil => exact List.Pairwise.nil
  | cons x r => exact cpFrom_lt r x h
/-- what sortPairs gives: the one row of its pairs that rises -/
theorem sortPairs_ev (l B : List PairT) (hl : l.length ≤ 1073741824) (hB : B.Pairwise ltP) (hm : ∀ z, z ∈ l ↔ z ∈ B) : Ev (fun k => impl_sortPairs k l) B := by
  have hs := sorted_le l
  have hlen : (List.mergeSort l (fun x y => !(Go.Proofs.ltOf cfPair y x))).length = l.length := List.length_mergeSort _
  have hmem : ∀ z, z ∈ List.mergeSort l (fun x y => !(Go.Proofs.ltOf cfPair y x)) ↔ z ∈ l := fun z => List.mem_mergeSort
  have e : cpB (List.mergeSort l (fun x y => !(Go.Proofs.ltOf cfPair y x))) = B := lt_unique (cpB_lt hs) hB fun z => by rw [cpB_mem, hmem, hm]
  refine ev_congr (fun k => impl_sortPairs_eq k l) (ev_bind (sortF_ev (fun k x y => sortPairs1_eq k x y) l hl) (ev_bind ?_ (ev_some _)))
  have := compact_ev (List.mergeSort l (fun x y => !(Go.Proofs.ltOf cfPair y x))) (by omega)
  rw [e] at this
  exact this

/-! ### waitsfor -/
/-! WaitsFor -/
def ltPb (x y : PairT) : Bool := decide (x.1 < y.1) || (decide (x.1 = y.1) && decide (x.2 < y.2))
theorem ltPb_iff {x y : PairT} : ltPb x y = true ↔ ltP x y := by
  unfold ltPb ltP
  simp only [Bool.or_eq_true, Bool.and_eq_true, decide_eq_true_eq]
def insP : List PairT → PairT → List PairT
  | [], x => [x]
  | y :: r, x => if ltPb y x = true then y :: insP r x else if y = x then y :: r else x :: y :: r
theorem insP_mem : ∀ (L : List PairT) (x z : PairT), z ∈ insP L x ↔ z = x ∨ z ∈ L
  | [], x, z => by simp [insP]
  | y :: r, x, z => by
    rw [insP]
    split
    · simp only [List.mem_cons, insP_mem r x z]
      constructor
      · rintro (h | h | h)
        · exact .inr (.inl h)
        · exact .inl h
        · exact .inr (.inr h)
      · rintro (h | h | h)
        · exact .inr (.inl h)
        · exact .inl h
        · exact .inr (.inr h)
    · split
      · rename_i h; subst h
        simp only [List.mem_cons]
        constructor
        · intro h; exact .inr h
        · rintro (h | h)
          · exact .inl h
          · exact h
      · simp only [List.mem_cons]
theorem insP_len : ∀ (L : List PairT) (x : PairT), (insP L x).length ≤ L.length + 1
  | [], x => by simp [insP]
  | y :: r, x => by
    rw [insP]
    split
    · have := insP_len r x; simp only [List.length_cons]; omega
    · split <;> simp
theorem ltP_trans {x y z : PairT} (h : ltP x y) (h' : ltP y z) : ltP x z := by unfold ltP at *; omega
theorem insP_lt : ∀ (L : List PairT) (x : PairT), L.Pairwise ltP → (insP L x).Pairwise ltP
  | [], x, _ => by simp [insP]
  | y :: r, x, h => by
    obtain ⟨h1, h2⟩ := List.pairwise_cons.1 h
    rw [insP]
    split
    · rename_i hlt
      refine List.pairwise_cons.2 ⟨fun z hz => ?_, insP_lt r x h2⟩
      rcases (insP_mem r x z).1 hz with rfl | hz
      · exact ltPb_iff.1 hlt
      · exact h1 z hz
    · rename_i hlt
      split
      · exact h
      · rename_i hne
        have hxy : ltP x y := by
          have : ¬ ltP y x := fun h => hlt (ltPb_iff.2 h)
          have hne' : ¬ (y.1 = x.1 ∧ y.2 = x.2) := fun h => hne (Prod.ext h.1 h.2)
          unfold ltP at *
          omega
        refine List.pairwise_cons.2 ⟨fun z hz => ?_, h⟩
        rcases List.mem_cons.1 hz with rfl | hz
        · exact hxy
        · exact ltP_trans hxy (h1 z hz)
theorem pair_ev (L : List PairT) (hL : L.length ≤ 1073741824) (x : PairT) : Ev (fun k => spec_l4Pair k L x) (insP L x) := by
  refine ev_congr (fun k => spec_l4Pair_eq k L x) ?_
  have key := drop_ind0 L (fun n rs => Ev (fun k => spec_l4Pair_h2 k L x (n : Int)) (L.take n ++ insP rs x)) ?_ ?_
  · simpa using key
  · have b1 : (0 : Int) ≤ (L.length : Int) := by omega
    refine ev_last fun k => ?_
    have c1 : ¬ (L.length : Int) < (L.length : Int) := by omega
    rw [spec_l4Pair_h2_eq]
    simp only [if_neg c1, Int.toNat_natCast, Int.toNat_zero, List.drop_zero, List.take_length, List.drop_length, List.nil_append, List.append_nil, insP]
    rw [if_pos b1, if_pos (by omega), if_pos (by omega), if_pos (by simp; omega), if_pos b1, if_pos (by omega), if_pos (by simp; omega)]
  · intro n y rs hn hx hd ih
    have d1 : (n : Int) < (L.length : Int) := by omega
    have d2 : (0 : Int) ≤ (n : Int) := by omega
    have d3 : (n : Int) ≤ (L.length : Int) := by omega
    have hcut : L.drop n = y :: rs := hd
    have htl : (L.take n).length ≤ 1073741824 := by rw [List.length_take]; omega
    have hrs : rs.length ≤ 1073741824 := by have := congrArg List.length hd; simp only [List.length_drop, List.length_cons] at this; omega
    rw [take_snoc hx] at ih
    rw [insP]
    refine ev_shift ?_
    simp only [spec_l4Pair_h2_eq, rdT_get (e := PairK) hx, wrap_nat (show n < 9223372036854775807 by omega), ev_ite_iff, ev_some_iff, ev_none_iff, samePair, Int.toNat_natCast, Int.toNat_zero, List.drop_zero, List.take_length, List.nil_append, hcut]
    rw [if_pos d1, if_pos d2, if_pos d1]
    have fin : (if (0 : Int) ≤ (n : Int) then if (n : Int) ≤ (L.length : Int) then if 0 + (L.take n).length ≤ 8796093022208 then if (L.take n).length + (List.cons x []).length ≤ 8796093022208 then if (0 : Int) ≤ (n : Int) then if (n : Int) ≤ (L.length : Int) then if (L.take n ++ List.cons x []).length + (y :: rs).length ≤ 8796093022208 then L.take n ++ List.cons x [] ++ (y :: rs) = L.take n ++ (x :: y :: rs) else False else False else False else False else False else False else False) := by
      rw [if_pos d2, if_pos d3, if_pos (by omega), if_pos (by simp; omega), if_pos d2, if_pos d3, if_pos (by simp; omega)]
      simp
    by_cases h1 : y.1 < x.1
    · have hlt : ltPb y x = true := by simp [ltPb, h1]
      rw [if_pos h1, if_pos hlt]
      simpa using ih
    · rw [if_neg h1, if_pos d2, if_pos d1]
      by_cases h2 : y.1 = x.1
      · rw [if_pos h2, if_pos d2, if_pos d1]
        by_cases h3 : y.2 < x.2
        · have hlt : ltPb y x = true := by simp [ltPb, h2, h3]
          rw [if_pos h3, if_pos hlt]
          simpa using ih
        · have hlt : ¬ ltPb y x = true := by simp [ltPb, h2, h3]
          rw [if_neg h3, if_neg hlt, if_pos d1, if_pos d2, if_pos d1]
          by_cases h4 : y = x
          · rw [if_pos (decide_eq_true h4), if_pos h4]
            rw [← hcut, List.take_append_drop]
          · rw [if_neg (by simp [h4]), if_neg h4]
            exact fin
      · have hlt : ¬ ltPb y x = true := by simp [ltPb, h1, h2]
        have h4 : ¬ y = x := fun e => h2 (by rw [e])
        rw [if_neg h2, if_neg hlt, if_neg h4, if_pos d1, if_pos d2, if_pos d1, if_neg (by simp [h4])]
        exact fin
/-! who waits for whom -/
def seqW (x : LockT) (j : Nat) (w : HoldT) : List PairT := ((x.2.1.filter fun h => !decide (h.1 = w.1)).map fun h => (w.1, h.1)) ++ (x.2.2.take j).map fun o => (w.1, o.1)
def seqF (x : LockT) : Nat → List HoldT → List PairT
  | _, [] => []
  | j, w :: r => seqW x j w ++ seqF x (j + 1) r
def seqL (l : List LockT) : List PairT := l.flatMap fun x => seqF x 0 x.2.2
def insAll (L S : List PairT) : List PairT := S.foldl insP L
theorem insAll_app (L S S' : List PairT) : insAll L (S ++ S') = insAll (insAll L S) S' := List.foldl_append
theorem insAll_len : ∀ (S L : List PairT), (insAll L S).length ≤ L.length + S.length
  | [], L => by simp [insAll]
  | x :: S, L => by
    have h1 := insAll_len S (insP L x)
    have h2 := insP_len L x
    show (insAll (insP L x) S).length ≤ _
    simp only [List.length_cons]; omega
theorem insAll_lt : ∀ (S L : List PairT), L.Pairwise ltP → (insAll L S).Pairwise ltP
  | [], L, h => h
  | x :: S, L, h => insAll_lt S (insP L x) (insP_lt L x h)
theorem insAll_mem : ∀ (S L : List PairT) (z : PairT), z ∈ insAll L S ↔ z ∈ L ∨ z ∈ S
  | [], L, z => by simp [insAll]
  | x :: S, L, z => by
    show z ∈ insAll (insP L x) S ↔ _
    rw [insAll_mem S (insP L x) z, insP_mem]
    simp only [List.mem_cons]
    constructor
    · rintro ((h | h) | h)
      · exact .inr (.inl h)
      · exact .inl h
      · exact .inr (.inr h)
    · rintro (h | h | h)
      · exact .inl (.inr h)
      · exact .inl (.inl h)
      · exact .inr h
theorem seqW_len (x : LockT) (j : Nat) (w : HoldT) : (seqW x j w).length ≤ x.2.1.length + j := by
  have := List.length_filter_le (fun h : HoldT => !decide (h.1 = w.1)) x.2.1
  unfold seqW
  rw [List.length_append, List.length_map, List.length_map, List.length_take]; omega
section
variable (l : List LockT) (hl : l.length ≤ 20) (x : LockT) (n : Nat) (hn : n < l.length) (h1 : x.2.1.length ≤ 1048576) (h8 : x.2.2.length ≤ 8) (res : List PairT × Bool)
theorem sw_ev (w : HoldT) (j : Nat) (hj : j < x.2.2.length) (h1 : x.2.1.length ≤ 1048576) (h8 : x.2.2.length ≤ 8) (L : List PairT) (hL : L.length ≤ 536870912)
    (H : Ev (fun k => spec_WaitsFor_h8 k (insAll L (seqW x j w)) x l (l.length : Int) (n : Int) x.2.2 (x.2.2.length : Int) ((j + 1 : Nat) : Int)) res) :
    Ev (fun k => spec_WaitsFor_h11 k L x (j : Int) w l (l.length : Int) (n : Int) x.2.2 (x.2.2.length : Int) (j : Int) x.2.1 (x.2.1.length : Int) 0) res := by
  have htl : (x.2.2.take j).length ≤ 8 := by rw [List.length_take]; omega
  have second : ∀ L : List PairT, L.length ≤ 536870912 + 1048576 → Ev (fun k => spec_WaitsFor_h8 k (insAll L ((x.2.2.take j).map fun o => (w.1, o.1))) x l (l.length : Int) (n : Int) x.2.2 (x.2.2.length : Int) ((j + 1 : Nat) : Int)) res → Ev (fun k => spec_WaitsFor_h17 k L x w l (l.length : Int) (n : Int) x.2.2 (x.2.2.length : Int) (j : Int) (x.2.2.take j) ((x.2.2.take j).length : Int) 0) res := by
    intro L hL H
    generalize hT : x.2.2.take j = T at htl H
    have key := drop_ind0 T (fun i rs => ∀ L : List PairT, L.length ≤ 536870912 + 1048576 + i → Ev (fun k => spec_WaitsFor_h8 k (insAll L (rs.map fun o => (w.1, o.1))) x l (l.length : Int) (n : Int) x.2.2 (x.2.2.length : Int) ((j + 1 : Nat) : Int)) res → Ev (fun k => spec_WaitsFor_h17 k L x w l (l.length : Int) (n : Int) x.2.2 (x.2.2.length : Int) (j : Int) T (T.length : Int) (i : Int)) res) ?_ ?_
    · exact key L (by omega) H
    · intro L _ H
      refine ev_shift ?_
      simp only [spec_WaitsFor_h17_eq, ev_ite_iff, wrap_nat (show j < 9223372036854775807 by omega)]
      rw [if_neg (by omega)]
      exact H
    · intro i o rs hi ho hd ih L hL H
      have e1 : (i : Int) < (T.length : Int) := by omega
      have e2 : (0 : Int) ≤ (i : Int) := by omega
      refine ev_shift ?_
      simp only [spec_WaitsFor_h17_eq, ev_ite_iff, ev_none_iff, rdT_get (e := HoldK) ho, wrap_nat (show i < 9223372036854775807 by omega), ev_bind_iff (pair_ev L (by omega) (w.1, o.1))]
      rw [if_pos e1, if_pos e2, if_pos e1]
      have := insP_len L (w.1, o.1)
      exact ih _ (by omega) H
  have key := drop_ind0 x.2.1 (fun i rs => ∀ L : List PairT, L.length ≤ 536870912 + i → Ev (fun k => spec_WaitsFor_h8 k (insAll L (((rs.filter fun h => !decide (h.1 = w.1)).map fun h => (w.1, h.1)) ++ (x.2.2.take j).map fun o => (w.1, o.1))) x l (l.length : Int) (n : Int) x.2.2 (x.2.2.length : Int) ((j + 1 : Nat) : Int)) res → Ev (fun k => spec_WaitsFor_h11 k L x (j : Int) w l (l.length : Int) (n : Int) x.2.2 (x.2.2.length : Int) (j : Int) x.2.1 (x.2.1.length : Int) (i : Int)) res) ?_ ?_
  · exact key L (by omega) H
  · intro L hL H
    have e1 : (0 : Int) ≤ (j : Int) := by omega
    have e2 : (j : Int) ≤ (x.2.2.length : Int) := by omega
    refine ev_shift ?_
    simp only [spec_WaitsFor_h11_eq, ev_ite_iff, ev_none_iff, Int.toNat_natCast, Int.toNat_zero, List.drop_zero]
    rw [if_neg (by omega), if_pos e1, if_pos e2]
    exact second L (by omega) H
  · intro i o rs hi ho hd ih L hL H
    have e1 : (i : Int) < (x.2.1.length : Int) := by omega
    have e2 : (0 : Int) ≤ (i : Int) := by omega
    refine ev_shift ?_
    simp only [spec_WaitsFor_h11_eq, ev_ite_iff, ev_none_iff, rdT_get (e := HoldK) ho, wrap_nat (show i < 9223372036854775807 by omega), ev_bind_iff (pair_ev L (by omega) (w.1, o.1))]
    rw [if_pos e1, if_pos e2, if_pos e1]
    have hlen := insP_len L (w.1, o.1)
    by_cases hw : o.1 = w.1
    · rw [if_neg (by simp [hw])]
      exact ih L (by omega) (by simpa [hw] using H)
    · rw [if_pos hw]
      refine ih _ (by omega) ?_
      have hf : (o :: rs).filter (fun h => !decide (h.1 = w.1)) = o :: rs.filter (fun h => !decide (h.1 = w.1)) := by simp [hw]
      rw [hf] at H
      exact H
theorem sx_ev (h1 : x.2.1.length ≤ 1048576) (h8 : x.2.2.length ≤ 8) (hn : n ≤ 20) (L : List PairT) (hL : L.length ≤ n * 8388672)
    (H : ∀ L : List PairT, L.length ≤ (n + 1) * 8388672 → Ev (fun k => spec_WaitsFor_h5 k (insAll L []) l (l.length : Int) ((n + 1 : Nat) : Int)) res → True)
    (H' : Ev (fun k => spec_WaitsFor_h5 k (insAll L (seqF x 0 x.2.2)) l (l.length : Int) ((n + 1 : Nat) : Int)) res) :
    Ev (fun k => spec_WaitsFor_h8 k L x l (l.length : Int) (n : Int) x.2.2 (x.2.2.length : Int) 0) res := by
  have key := drop_ind0 x.2.2 (fun j rs => ∀ L : List PairT, L.length ≤ n * 8388672 + j * 1048584 → Ev (fun k => spec_WaitsFor_h5 k (insAll L (seqF x j rs)) l (l.length : Int) ((n + 1 : Nat) : Int)) res → Ev (fun k => spec_WaitsFor_h8 k L x l (l.length : Int) (n : Int) x.2.2 (x.2.2.length : Int) (j : Int)) res) ?_ ?_
  · refine key L ?_ H'
    rw [Nat.zero_mul, Nat.add_zero]; exact hL
  · intro L _ H
    refine ev_shift ?_
    simp only [spec_WaitsFor_h8_eq, ev_ite_iff, wrap_nat (show n < 9223372036854775807 by omega)]
    rw [if_neg (by omega)]
    exact H
  · intro j w rs hj hw hd ih L hL H
    have e1 : (j : Int) < (x.2.2.length : Int) := by omega
    have e2 : (0 : Int) ≤ (j : Int) := by omega
    refine ev_shift ?_
    simp only [spec_WaitsFor_h8_eq, ev_ite_iff, ev_none_iff, rdT_get (e := HoldK) hw]
    rw [if_pos e1, if_pos e2, if_pos e1]
    refine sw_ev l x n res w j hj h1 h8 L (by omega) (ih _ ?_ ?_)
    · have := insAll_len (seqW x j w) L
      have := seqW_len x j w
      omega
    · rw [← insAll_app]
      exact H
/-! the other side -/
theorem iw_ev (w : HoldT) (j : Nat) (hw : x.2.2[j]? = some w) (hdec : decFrom x.2.2 0) (h1 : x.2.1.length ≤ 1048576) (h8 : x.2.2.length ≤ 8) (out : List PairT) (ho : out.length ≤ 536870912)
    (H : Ev (fun k => impl_WaitsFor_h8 k (out ++ seqW x j w) x l (l.length : Int) (n : Int) x.2.2 (x.2.2.length : Int) ((j + 1 : Nat) : Int)) res) :
    Ev (fun k => impl_WaitsFor_h11 k out x w l (l.length : Int) (n : Int) x.2.2 (x.2.2.length : Int) (j : Int) (x.2.1 ++ x.2.2.take j) ((x.2.1 ++ x.2.2.take j).length : Int) 0) res := by
  have hj := (List.getElem?_eq_some_iff.1 hw).1
  have hseq : seqW x j w = ((x.2.1 ++ x.2.2.take j).filter fun h => !decide (h.1 = w.1)).map fun h => (w.1, h.1) := by
    have : (x.2.2.take j).filter (fun h => !decide (h.1 = w.1)) = x.2.2.take j := List.filter_eq_self.2 fun o ho => by
      have := hdec j w (by omega) hw o ho
      simp; omega
    unfold seqW
    rw [List.filter_append, List.map_append, this]
  rw [hseq] at H
  have hTl : (x.2.1 ++ x.2.2.take j).length ≤ 1048584 := by rw [List.length_append, List.length_take]; omega
  generalize x.2.1 ++ x.2.2.take j = T at H hTl
  have key := drop_ind0 T (fun i rs => ∀ out : List PairT, out.length ≤ 536870912 + i → Ev (fun k => impl_WaitsFor_h8 k (out ++ (rs.filter fun h => !decide (h.1 = w.1)).map fun h => (w.1, h.1)) x l (l.length : Int) (n : Int) x.2.2 (x.2.2.length : Int) ((j + 1 : Nat) : Int)) res → Ev (fun k => impl_WaitsFor_h11 k out x w l (l.length : Int) (n : Int) x.2.2 (x.2.2.length : Int) (j : Int) T (T.length : Int) (i : Int)) res) ?_ ?_
  · exact key out (by omega) H
  · intro out _ H
    refine ev_shift ?_
    simp only [impl_WaitsFor_h11_eq, ev_ite_iff, wrap_nat (show j < 9223372036854775807 by omega)]
    rw [if_neg (by omega)]
    simpa using H
  · intro i o rs hi ho hd ih out hout H
    have e1 : (i : Int) < (T.length : Int) := by omega
    have e2 : (0 : Int) ≤ (i : Int) := by omega
    refine ev_shift ?_
    simp only [impl_WaitsFor_h11_eq, ev_ite_iff, ev_none_iff, rdT_get (e := HoldK) ho, wrap_nat (show i < 9223372036854775807 by omega)]
    rw [if_pos e1, if_pos e2, if_pos e1]
    by_cases hw' : o.1 = w.1
    · rw [if_neg (by simp [hw'])]
      exact ih out (by omega) (by simpa [hw'] using H)
    · rw [if_pos hw', if_pos (by simp; omega)]
      refine ih _ (by simp; omega) ?_
      have hf : (o :: rs).filter (fun h => !decide (h.1 = w.1)) = o :: rs.filter (fun h => !decide (h.1 = w.1)) := by simp [hw']
      rw [hf] at H
      simpa using H
theorem ix_ev (hdec : decFrom x.2.2 0) (h1 : x.2.1.length ≤ 1048576) (h8 : x.2.2.length ≤ 8) (hn : n ≤ 20) (out : List PairT) (ho : out.length ≤ n * 8388672)
    (H : Ev (fun k => impl_WaitsFor_h5 k (out ++ seqF x 0 x.2.2) l (l.length : Int) ((n + 1 : Nat) : Int)) res) :
    Ev (fun k => impl_WaitsFor_h8 k out x l (l.length : Int) (n : Int) x.2.2 (x.2.2.length : Int) 0) res := by
  have key := drop_ind0 x.2.2 (fun j rs => ∀ out : List PairT, out.length ≤ n * 8388672 + j * 1048584 → Ev (fun k => impl_WaitsFor_h5 k (out ++ seqF x j rs) l (l.length : Int) ((n + 1 : Nat) : Int)) res → Ev (fun k => impl_WaitsFor_h8 k out x l (l.length : Int) (n : Int) x.2.2 (x.2.2.length : Int) (j : Int)) res) ?_ ?_
  · refine key out ?_ H
    rw [Nat.zero_mul, Nat.add_zero]; exact ho
  · intro out _ H
    refine ev_shift ?_
    simp only [impl_WaitsFor_h8_eq, ev_ite_iff, wrap_nat (show n < 9223372036854775807 by omega)]
    rw [if_neg (by omega)]
    simpa [seqF] using H
  · intro j w rs hj hw hd ih out hout H
    have e1 : (j : Int) < (x.2.2.length : Int) := by omega
    have e2 : (0 : Int) ≤ (j : Int) := by omega
    have e3 : (j : Int) ≤ (x.2.2.length : Int) := by omega
    have htl : (x.2.2.take j).length ≤ 8 := by rw [List.length_take]; omega
    refine ev_shift ?_
    simp only [impl_WaitsFor_h8_eq, ev_ite_iff, ev_none_iff, rdT_get (e := HoldK) hw, Int.toNat_natCast, Int.toNat_zero, List.drop_zero, List.nil_append]
    rw [if_pos e1, if_pos e2, if_pos e1, if_pos e2, if_pos e3, if_pos (by omega), if_pos (by omega)]
    refine iw_ev l x n res w j hw hdec h1 h8 out (by omega) (ih _ ?_ ?_)
    · have := seqW_len x j w
      rw [List.length_append]; omega
    · simpa [seqF] using H
end
theorem seqF_len (x : LockT) (h1 : x.2.1.length ≤ 1048576) : ∀ (rs : List HoldT) (j : Nat), j + rs.length ≤ 8 → (seqF x j rs).length ≤ rs.length * 1048584
  | [], j, _ => by simp [seqF]
  | w :: rs, j, h => by
    have h2 := seqF_len x h1 rs (j + 1) (by simp only [List.length_cons] at h; omega)
    have h3 := seqW_len x j w
    simp only [List.length_cons] at h
    simp only [seqF, List.length_append, List.length_cons, Nat.add_mul]; omega
theorem waits_both (l : List LockT) (hl : l.length ≤ 1048576) (hB : ∀ x ∈ l, szBLock x) : ∃ r : List PairT × Bool, Ev (fun k => spec_WaitsFor k l) r ∧ Ev (fun k => impl_WaitsFor k l) r ∧ r.1.length ≤ 167773440 := by
  obtain ⟨b, b0, b1, b2⟩ := locks_ev l hl hB
  cases b with
  | false => exact ⟨([], false), ev_congr (fun k => spec_WaitsFor_eq k l) (ev_bind b1 (ev_if_pos (by simp) (ev_some _))), ev_congr (fun k => impl_WaitsFor_eq k l) (ev_bind b2 (ev_if_pos (by simp) (ev_some _))), by simp⟩
  | true =>
    have g := b0 rfl
    have hl20 := g.len
    have hx8 : ∀ (n : Nat) (x : LockT), l[n]? = some x → x.2.2.length ≤ 8 ∧ x.2.1.length ≤ 1048576 ∧ decFrom x.2.2 0 := fun n x hx => ⟨g.wl n x (by omega) hx, (hB x (List.mem_of_getElem? hx)).2.1, g.dec n x (by omega) hx⟩
    have hsl : ∀ (rs : List LockT) (n : Nat), l.drop n = rs → (seqL rs).length ≤ rs.length * 8388672 := by
      intro rs
      induction rs with
      | nil => intro n _; simp [seqL]
      | cons x rs ih =>
        intro n hd
        have hx : l[n]? = some x := by
          have := congrArg (fun z : List LockT => z[0]?) hd
          simpa using this
        obtain ⟨p1, p2, p3⟩ := hx8 n x hx
        have h2 := ih (n + 1) (drop_next hd)
        have h3 := seqF_len x p2 x.2.2 0 (by omega)
        have h4 : x.2.2.length * 1048584 ≤ 8 * 1048584 := Nat.mul_le_mul_right _ p1
        have : seqL (x :: rs) = seqF x 0 x.2.2 ++ seqL rs := by simp [seqL]
        rw [this, List.length_append, List.length_cons, Nat.add_mul]; omega
    have hraw := hsl l 0 rfl
    have hrawb : (seqL l).length ≤ 167773440 := by
      have : l.length * 8388672 ≤ 20 * 8388672 := Nat.mul_le_mul_right _ hl20
      omega
    have hfin := insAll_len (seqL l) []
    have spec := drop_ind0 l (fun n rs => ∀ L : List PairT, L.length ≤ n * 8388672 → Ev (fun k => spec_WaitsFor_h5 k L l (l.length : Int) (n : Int)) (insAll L (seqL rs), true)) ?_ ?_
    · have impl := drop_ind0 l (fun n rs => ∀ out : List PairT, out.length ≤ n * 8388672 → out ++ seqL rs = seqL l → Ev (fun k => impl_WaitsFor_h5 k out l (l.length : Int) (n : Int)) (insAll [] (seqL l), true)) ?_ ?_
      · refine ⟨(insAll [] (seqL l), true), ev_congr (fun k => spec_WaitsFor_eq k l) (ev_bind b1 (ev_if_neg (by simp) (spec [] (by simp)))), ev_congr (fun k => impl_WaitsFor_eq k l) (ev_bind b2 (ev_if_neg (by simp) (impl [] (by simp) rfl))), ?_⟩
        simp only [List.length_nil] at hfin
        show (insAll [] (seqL l)).length ≤ _
        omega
      · intro out ho he
        have he : out = seqL l := by simpa [seqL] using he
        subst he
        have hs := sortPairs_ev (seqL l) (insAll [] (seqL l)) (by omega) (insAll_lt _ _ List.Pairwise.nil) (fun z => by rw [insAll_mem]; simp)
        refine ev_shift ?_
        simp only [impl_WaitsFor_h5_eq, ev_ite_iff]
        rw [if_neg (by omega)]
        exact ev_bind hs (ev_some _)
      · intro n x rs hn hx hd ih out ho he
        obtain ⟨p1, p2, p3⟩ := hx8 n x hx
        have d1 : (n : Int) < (l.length : Int) := by omega
        have d2 : (0 : Int) ≤ (n : Int) := by omega
        refine ev_shift ?_
        simp only [impl_WaitsFor_h5_eq, ev_ite_iff, ev_none_iff, rdT_get (e := LockK) hx]
        rw [if_pos d1, if_pos d2, if_pos d1]
        have h3 := seqF_len x p2 x.2.2 0 (by omega)
        have h4 : x.2.2.length * 1048584 ≤ 8 * 1048584 := Nat.mul_le_mul_right _ p1
        exact ix_ev l x n _ p3 p2 p1 (by omega) out ho (ih _ (by rw [List.length_append]; omega) (by rw [← he]; simp [seqL]))
    · intro L _
      exact ev_last fun k => by rw [spec_WaitsFor_h5_eq, if_neg (by omega)]; simp [seqL, insAll]
    · intro n x rs hn hx hd ih L hL
      obtain ⟨p1, p2, p3⟩ := hx8 n x hx
      have d1 : (n : Int) < (l.length : Int) := by omega
      have d2 : (0 : Int) ≤ (n : Int) := by omega
      refine ev_shift ?_
      simp only [spec_WaitsFor_h5_eq, ev_ite_iff, ev_none_iff, rdT_get (e := LockK) hx]
      rw [if_pos d1, if_pos d2, if_pos d1]
      have h3 := seqF_len x p2 x.2.2 0 (by omega)
      have h4 : x.2.2.length * 1048584 ≤ 8 * 1048584 := Nat.mul_le_mul_right _ p1
      have h5 := insAll_len (seqF x 0 x.2.2) L
      have e : seqL (x :: rs) = seqF x 0 x.2.2 ++ seqL rs := by simp [seqL]
      rw [e, insAll_app]
      exact sx_ev l x n _ p2 p1 (by omega) L hL (fun _ _ _ => trivial) (ih _ (by omega))
theorem law (a0 : List LockT) (h0 : okT (.slice LockK) a0) : ∃ k, laws_FnExactWaitsFor k a0 = some true := by
  apply ev_fuel
  refine ev_congr (fun k => laws_FnExactWaitsFor_eq k a0) ?_
  obtain ⟨v, hv, _, hB⟩ := szLockS_ev a0 (by have := h0.1; omega) (fun x hx => ⟨(h0.2 x hx).1, (h0.2 x hx).2.1.1, (h0.2 x hx).2.2.1⟩) 1048576 (by omega) (by omega)
  refine ev_bind hv ?_
  by_cases hneg : v < 0
  · exact ev_if_pos hneg (ev_some _)
  refine ev_if_neg hneg ?_
  obtain ⟨hl, hs⟩ := hB (by omega)
  obtain ⟨r, spec, impl, hlen⟩ := waits_both a0 hl hs
  have to := toLockS_ev a0 hl hs
  have eqr := eqPairS_ev r.1 (by omega)
  have mk := markPairS_ev r.1 1 (by omega) (by omega)
  have hd := heldPairS_ev 1 r.1.length (by omega) (by omega)
  obtain ⟨m0, hm0, hm1⟩ := markLockS_ex a0 hl hs
  refine ev_bind to (ev_bind spec (ev_bind to (ev_bind impl (ev_bind eqr (ev_if_neg (by simp) (ev_if_neg (by simp) ?_))))))
  refine ev_bind to (ev_bind (eqLockS_ev a0 hl hs) (ev_if_neg (by simp) ?_))
  refine ev_bind hm0 (ev_if_neg (by omega) (ev_bind eqr (ev_if_neg (by simp) (ev_if_neg (by simp) ?_))))
  refine ev_bind mk (ev_bind hd (ev_if_neg (by omega) (ev_if_neg (by simp) ?_)))
  refine ev_bind to (ev_bind impl (ev_bind eqr (ev_if_neg (by simp) (ev_if_neg (by simp) ?_))))
  exact ev_bind hd (ev_if_neg (by omega) (ev_if_neg (by simp) (ev_some _)))

end Go.Proofs.YtjckjjpldplckaaDoor.Fms
