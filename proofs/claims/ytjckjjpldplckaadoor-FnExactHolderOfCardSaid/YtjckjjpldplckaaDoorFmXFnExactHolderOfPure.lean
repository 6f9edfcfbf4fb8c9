/- What the law's functions give: the pure part. -/
import Derived.Test.YtjckjjpldplckaaDoorFmAid
import Derived.Test.YtjckjjpldplckaaDoorFmOpn
import Derived.Test.YtjckjjpldplckaaDoorFmXFnExactHolderOfEq
set_option autoImplicit true
set_option maxRecDepth 100000
set_option linter.unusedVariables false
set_option linter.unusedSimpArgs false
set_option linter.unnecessarySimpa false
set_option linter.unusedSectionVars false
open Go Go.Fm Go.RowKit
namespace Go.Proofs.YtjckjjpldplckaaDoor.Fms
/-! ### base -/
theorem l1In_ev (n lo hi : Int) : Ev (fun k => spec_l1In k n lo hi) (decide (lo ≤ n ∧ n ≤ hi)) := ev_congr (fun k => by rw [spec_l1In_eq]) (by by_cases h : lo ≤ n <;> simp [ev_some_iff, h])

/-! ### inn -/
theorem in_ev (n lo hi : Int) : Ev (fun k => impl_in k n lo hi) (decide (lo ≤ n ∧ n ≤ hi)) := ev_congr (fun k => by rw [impl_in_eq]) (by by_cases h : lo ≤ n <;> simp [ev_some_iff, h])

/-! ### keys -/
def keyByte (b : UInt8) : Bool := (decide (97 ≤ b.toNat) && decide (b.toNat ≤ 122)) || (decide (48 ≤ b.toNat) && decide (b.toNat ≤ 57))
def keyB (s : ByteArray) : Bool := decide (1 ≤ s.size ∧ s.size ≤ 8) && s.data.toList.all keyByte
def keyCut : List UInt8 := [97, 98, 99, 100, 101, 102, 103, 104, 105, 106, 107, 108, 109, 110, 111, 112, 113, 114, 115, 116, 117, 118, 119, 120, 121, 122, 48, 49, 50, 51, 52, 53, 54, 55, 56, 57]
theorem keyCut_has (b : UInt8) : keyCut.contains b = keyByte b := by
  have h : ∀ n : Fin 256, keyCut.contains (UInt8.ofNat n.val) = keyByte (UInt8.ofNat n.val) := by decide +kernel
  have := h ⟨b.toNat, b.toNat_lt⟩
  simpa using this
theorem drop_nil {α : Type} (p : α → Bool) (l : List α) : (l.dropWhile p).isEmpty = l.all p := by
  induction l with
  | nil => rfl
  | cons x l ih => cases h : p x <;> simp [List.dropWhile_cons, h, ih]
theorem all_drop {α : Type} (p : α → Bool) (l : List α) : (l.dropWhile p).all p = l.all p := by
  induction l with
  | nil => rfl
  | cons x l ih => cases h : p x <;> simp [List.dropWhile_cons, h, ih]
theorem trim_nil (l : List UInt8) : (Go.Lib.trimS l keyCut).isEmpty = l.all keyByte := by
  unfold Go.Lib.trimS Go.Lib.trimLeftS Go.Lib.trimRightS
  rw [drop_nil, List.all_reverse, all_drop, List.all_reverse]
  congr 1
  funext b
  exact keyCut_has b
theorem mk_nil (l : List UInt8) : decide ((⟨l.toArray⟩ : ByteArray) = ByteArray.mk (Array.mk [])) = l.isEmpty := by
  cases l with
  | nil => exact decide_eq_true rfl
  | cons x l => exact decide_eq_false (fun h => by have := congrArg (fun b : ByteArray => b.data.size) h; simp at this)
theorem isKey_ev (s : ByteArray) : Ev (fun k => impl_isKey k s) (keyB s) := by
  refine ev_congr (fun k => impl_isKey_eq k s) ?_
  have e : MapW.strings_Trim.f s ⟨#[97, 98, 99, 100, 101, 102, 103, 104, 105, 106, 107, 108, 109, 110, 111, 112, 113, 114, 115, 116, 117, 118, 119, 120, 121, 122, 48, 49, 50, 51, 52, 53, 54, 55, 56, 57]⟩ = if s.size ≤ 9223372036854775807 then some ⟨(Go.Lib.trimS s.data.toList keyCut).toArray⟩ else none := by
    unfold MapW.strings_Trim.f
    by_cases h : s.size ≤ 9223372036854775807
    · rw [if_pos ⟨h, by decide, by decide⟩, if_pos h]; rfl
    · rw [if_neg (fun hh => h hh.1), if_neg h]
  simp only [e]
  unfold keyB
  by_cases h1 : (1 : Int) ≤ (s.size : Int)
  · by_cases h2 : (s.size : Int) ≤ 8
    · have h3 : 1 ≤ s.size ∧ s.size ≤ 8 := by omega
      rw [if_pos h1, if_pos h2, if_pos (by omega)]
      simp only [Option.bind_some, mk_nil, trim_nil, h3, decide_true, and_self, Bool.true_and]
      exact ev_some _
    · have h3 : ¬ (1 ≤ s.size ∧ s.size ≤ 8) := by omega
      rw [if_pos h1, if_neg h2]
      simp only [h3, decide_false, Bool.false_and]
      exact ev_some _
  · have h3 : ¬ (1 ≤ s.size ∧ s.size ≤ 8) := by omega
    rw [if_neg h1]
    simp only [h3, decide_false, Bool.false_and]
    exact ev_some _
theorem l1Key_ev (s : ByteArray) (hs : s.size ≤ 140737488355328) : Ev (fun k => spec_l1Key k s) (keyB s) := by
  have hl := size_len s
  have key := drop_ind0 s.data.toList (fun n rest => Ev (fun k => spec_l1Key_h2 k s (n : Int)) (rest.all keyByte && decide (1 ≤ s.size ∧ s.size ≤ 8))) ?_ ?_
  · refine ev_congr (fun k => spec_l1Key_eq k s) ?_
    unfold keyB
    rw [Bool.and_comm]
    exact key
  · refine ev_shift ?_
    simp only [spec_l1Key_h2_eq, ev_ite_iff, ev_bind_iff (l1In_ev _ _ _), ev_some_iff]
    rw [← hl, if_neg (by omega)]
    simp only [List.all_nil, Bool.true_and]
    congr 1
    exact propext ⟨fun h => by omega, fun h => by omega⟩
  · intro n b rest hn hx hd ih
    refine ev_shift ?_
    simp only [spec_l1Key_h2_eq, bt_nat hx, wrap_nat (show n < 9223372036854775807 by omega), ev_ite_iff, ev_some_iff, ev_none_iff, List.all_cons]
    rw [if_pos (by omega), if_pos (by omega), if_pos (by omega)]
    cases hp : keyByte b with
    | true =>
      simp only [Bool.true_and]
      simp only [keyByte, Bool.or_eq_true, Bool.and_eq_true, decide_eq_true_eq] at hp
      split
      · split
        · exact ih
        · rw [if_pos (by omega), if_neg (by omega)]; exact ih
      · rw [if_pos (by omega), if_neg (by omega)]; exact ih
    | false =>
      simp only [keyByte, Bool.or_eq_false_iff, Bool.and_eq_false_iff, decide_eq_false_iff_not] at hp
      simp only [Bool.false_and]
      split
      · rw [if_neg (by omega)]
        split
        · rw [if_pos (by omega)]; trivial
        · trivial
      · split
        · rw [if_pos (by omega)]; trivial
        · trivial

/-! ### has -/
def hasB (l : List Int) (n : Int) : Bool := l.any fun x => decide (x = n)
theorem hasB_iff {l : List Int} {n : Int} : hasB l n = true ↔ n ∈ l := by simp [hasB]
theorem l1Has_ev (l : List Int) (n : Int) (hl : l.length ≤ 140737488355328) : Ev (fun k => spec_l1Has k l n) (hasB l n) := by
  have key := drop_ind0 l (fun j rest => Ev (fun k => spec_l1Has_h2 k n l (l.length : Int) (j : Int)) (hasB rest n)) ?_ ?_
  · exact ev_congr (fun k => spec_l1Has_eq k l n) key
  · exact ev_last fun k => by rw [spec_l1Has_h2_eq, if_neg (by omega)]; rfl
  · intro j x rest hj hx hd ih
    refine ev_shift ?_
    simp only [spec_l1Has_h2_eq, rdT_get (e := .int .i64) hx, wrap_nat (show j < 9223372036854775807 by omega), ev_ite_iff, ev_none_iff, ev_some_iff]
    rw [if_pos (by omega), if_pos (by omega), if_pos (by omega)]
    unfold hasB
    rw [List.any_cons]
    by_cases h : x = n
    · rw [if_pos h]; simp [h]
    · rw [if_neg h]; simpa [h, hasB] using ih

/-! ### lock -/
abbrev HoldT := Int × Int
abbrev LockT := ByteArray × List HoldT × List HoldT
abbrev HoldK : Kind := .struct (.pair (.int .i64) (.int .i64))
abbrev LockK : Kind := .struct (.pair .str (.pair (.slice HoldK) (.slice HoldK)))
def szokLock (x : LockT) : Prop := x.1.size ≤ 140737488351232 ∧ x.2.1.length ≤ 140737488351232 ∧ x.2.2.length ≤ 140737488351232
def szBLock (x : LockT) : Prop := x.1.size ≤ 1048576 ∧ x.2.1.length ≤ 1048576 ∧ x.2.2.length ≤ 1048576
theorem szHoldS_ev (l : List HoldT) (hl : l.length ≤ 140737488351232) (a : Int) (h0 : 0 ≤ a) (h1 : a ≤ 1048576) : ∃ v, Ev (fun k => laws_szHoldS k l a) v ∧ v ≤ a ∧ (0 ≤ v → l.length ≤ 1048576) := by
  have w : wrap64 (a - (l.length : Int)) = a - l.length := wrap_of (by omega) (by omega)
  by_cases h : a - (l.length : Int) < 0
  · exact ⟨-1, ev_congr (fun k => by rw [laws_szHoldS_eq, w, if_pos h]) (ev_some _), by omega, fun h => by omega⟩
  · exact ⟨_, ev_congr (fun k => by rw [laws_szHoldS_eq, w, if_neg h]) (ev_some _), by omega, fun _ => by omega⟩
theorem szLock_ev (x : LockT) (hx : szokLock x) (a : Int) (h0 : 0 ≤ a) (h1 : a ≤ 1048576) : ∃ v, Ev (fun k => laws_szLock k x a) v ∧ v ≤ a ∧ (0 ≤ v → szBLock x) := by
  obtain ⟨x1, x2, x3⟩ := hx
  have w : wrap64 (a - (x.1.size : Int)) = a - x.1.size := wrap_of (by omega) (by omega)
  by_cases h : a - (x.1.size : Int) < 0
  · exact ⟨-1, ev_congr (fun k => by rw [laws_szLock_eq, w, if_pos h]) (ev_some _), by omega, fun h => by omega⟩
  · obtain ⟨v, hv, hle, hB⟩ := szHoldS_ev x.2.1 x2 (a - x.1.size) (by omega) (by omega)
    by_cases hneg : v < 0
    · refine ⟨-1, ev_congr (fun k => by rw [laws_szLock_eq, w, if_neg h]) (ev_bind hv (ev_if_pos hneg (ev_some _))), by omega, fun h => by omega⟩
    · obtain ⟨u, hu, hle2, hB2⟩ := szHoldS_ev x.2.2 x3 v (by omega) (by omega)
      by_cases hneg2 : u < 0
      · exact ⟨-1, ev_congr (fun k => by rw [laws_szLock_eq, w, if_neg h]) (ev_bind hv (ev_if_neg hneg (ev_bind hu (ev_if_pos hneg2 (ev_some _))))), by omega, fun h => by omega⟩
      · exact ⟨u, ev_congr (fun k => by rw [laws_szLock_eq, w, if_neg h]) (ev_bind hv (ev_if_neg hneg (ev_bind hu (ev_if_neg hneg2 (ev_some _))))), by omega, fun _ => ⟨by omega, hB (by omega), hB2 (by omega)⟩⟩
theorem szLockS_ev (l : List LockT) (hl : l.length ≤ 140737488355328) (hk : ∀ x ∈ l, szokLock x) (a : Int) (h0 : 0 ≤ a) (h1 : a ≤ 1048576) : ∃ v, Ev (fun k => laws_szLockS k l a) v ∧ v ≤ a ∧ (0 ≤ v → l.length ≤ 1048576 ∧ ∀ x ∈ l, szBLock x) :=
  sz_top (fun k l a => laws_szLockS_eq k l a) (sz_row (e := LockK) (fun k l a i => laws_szLockS_h5_eq k l a i) (fun x hx a h0 h1 => szLock_ev x (hk x hx) a h0 h1) (by omega)) hl a h0 h1
theorem toHold_ev (x : HoldT) : Ev (fun k => laws_toHold k x) x := ev_congr (fun k => laws_toHold_eq k x) (ev_some x)
theorem eqHold_ev (x : HoldT) : Ev (fun k => laws_eqHold k x x) true := ev_congr (fun k => laws_eqHold_eq k x x) (by simp [ev_some_iff])
theorem toHoldS_ev (l) (hl : l.length ≤ 1048576) : Ev (fun k => laws_toHoldS k l) l := by
  refine ev_congr (fun k => laws_toHoldS_eq k l) ?_
  simp only [ev_ite_iff]
  rw [if_pos trivial, if_pos (by omega)]
  simpa using to_row (l := l) (cv := id) (z := _) (fun k l r i => laws_toHoldS_h3_eq k l r i) (fun x _ => toHold_ev x) (by omega)
theorem eqHoldS_ev (l) (hl : l.length ≤ 140737488355328) : Ev (fun k => laws_eqHoldS k l l) true := by
  refine ev_congr (fun k => laws_eqHoldS_eq k l l) ?_
  simp only [ev_ite_iff]
  rw [if_neg (by simp)]
  exact eq_row (l := l) (fun k a b i => laws_eqHoldS_h4_eq k a b i) (fun x _ => eqHold_ev x) (by omega)
theorem toLock_ev (x : LockT) (hx : szBLock x) : Ev (fun k => laws_toLock k x) x :=
  ev_congr (fun k => laws_toLock_eq k x) (ev_bind (toHoldS_ev x.2.1 hx.2.1) (ev_bind (toHoldS_ev x.2.2 hx.2.2) (ev_some x)))
theorem eqLock_ev (x : LockT) (hx : szBLock x) : Ev (fun k => laws_eqLock k x x) true :=
  ev_congr (fun k => laws_eqLock_eq k x x) (ev_if_neg (by simp) (ev_bind (eqHoldS_ev x.2.1 (by have := hx.2.1; omega)) (ev_if_neg (by simp) (ev_bind (eqHoldS_ev x.2.2 (by have := hx.2.2; omega)) (ev_if_neg (by simp) (ev_some true))))))
theorem toLockS_ev (l : List LockT) (hl : l.length ≤ 1048576) (hB : ∀ x ∈ l, szBLock x) : Ev (fun k => laws_toLockS k l) l := by
  refine ev_congr (fun k => laws_toLockS_eq k l) ?_
  simp only [ev_ite_iff]
  rw [if_pos trivial, if_pos (by omega)]
  simpa using to_row (e := LockK) (d := LockK) (l := l) (cv := id) (z := _) (fun k l r i => laws_toLockS_h3_eq k l r i) (fun x hx => toLock_ev x (hB x hx)) (by omega)
theorem eqLockS_ev (l : List LockT) (hl : l.length ≤ 1048576) (hB : ∀ x ∈ l, szBLock x) : Ev (fun k => laws_eqLockS k l l) true := by
  refine ev_congr (fun k => laws_eqLockS_eq k l l) ?_
  simp only [ev_ite_iff]
  rw [if_neg (by simp)]
  exact eq_row (e := LockK) (l := l) (fun k a b i => laws_eqLockS_h4_eq k a b i) (fun x hx => eqLock_ev x (hB x hx)) (by omega)

/-! ### goodlocks0 -/
/-! the two maps of who waits: a list here, a map there -/
theorem mgetT_put : ∀ (m : List (Int × Bool)) (n x : Int), mgetT (.int .i64) .bool (mputT (.int .i64) .bool m n true) x = (decide (x = n) || mgetT (.int .i64) .bool m x)
  | [], n, x => by
    by_cases h : x = n <;> simp [mgetT, mputT, mfind, eqT, h, zeroT]
  | p :: m, n, x => by
    have ih := mgetT_put m n x
    simp only [mgetT, mputT, mfind, eqT] at ih ⊢
    by_cases h1 : n = p.1 <;> by_cases h2 : x = p.1 <;> by_cases h3 : x = n <;> simp_all [mfind, eqT]
def Rel2 (ws : List Int) (m : List (Int × Bool)) : Prop := ∀ n, mgetT (.int .i64) .bool m n = hasB ws n
theorem rel_put {ws : List Int} {m : List (Int × Bool)} (h : Rel2 ws m) (n : Int) : Rel2 (ws ++ [n]) (mputT (.int .i64) .bool m n true) := by
  intro x
  rw [mgetT_put, h x]
  simp only [hasB, List.any_append, List.any_cons, List.any_nil, Bool.or_false]
  rw [Bool.or_comm]
  congr 1
  exact decide_eq_decide.2 ⟨fun h => h.symm, fun h => h.symm⟩
theorem both_shift {α : Type} {f g : Nat → Option α} {b : α} (h : Ev (fun k => f (k + 1)) b ∧ Ev (fun k => g (k + 1)) b) : Ev f b ∧ Ev g b := ⟨ev_shift h.1, ev_shift h.2⟩
def txnB (n : Int) : Bool := decide (1 ≤ n ∧ n ≤ 1000)
theorem txn_ev (n : Int) : Ev (fun k => spec_l4Txn k n) (txnB n) := ev_congr (fun k => spec_l4Txn_eq k n) ((ev_bind_iff (l1In_ev _ _ _)).2 (ev_some _))
theorem isTxn_ev (n : Int) : Ev (fun k => impl_isTxn k n) (txnB n) := ev_congr (fun k => impl_isTxn_eq k n) ((ev_bind_iff (in_ev _ _ _)).2 (ev_some _))
def modeB (n : Int) : Bool := decide (1 ≤ n ∧ n ≤ 2)
theorem isMode_ev (n : Int) : Ev (fun k => impl_isMode k n) (modeB n) := by
  refine ev_congr (fun k => impl_isMode_eq k n) ?_
  simp only [ev_ite_iff, ev_some_iff, modeB]
  by_cases h : n = 1
  · rw [if_pos h]; simp [h]
  · rw [if_neg h]; congr 1; exact propext ⟨fun h => by omega, fun h' => by omega⟩
def holdB (h : HoldT) : Bool := txnB h.1 && modeB h.2
theorem l4Hold_ev (h : HoldT) : Ev (fun k => spec_l4Hold k h) (holdB h) := by
  refine ev_congr (fun k => spec_l4Hold_eq k h) ?_
  simp only [ev_bind_iff (txn_ev _), ev_bind_iff (l1In_ev _ _ _), ev_ite_iff, ev_some_iff, holdB, modeB]
  cases txnB h.1 <;> simp
/-! a look through a row -/
def clashB (h o : HoldT) : Bool := !decide (o.1 = h.1) && (decide (h.2 = 2) || decide (o.2 = 2))
theorem l4Can_ev (x : LockT) (h : HoldT) (hl : x.2.1.length ≤ 1048576) : Ev (fun k => spec_l4Can k x h) (!x.2.1.any (clashB h)) := by
  refine ev_congr (fun k => spec_l4Can_eq k x h) ?_
  refine drop_ind0 x.2.1 (fun n rest => Ev (fun k => spec_l4Can_h2 k h x.2.1 (x.2.1.length : Int) (n : Int)) (!rest.any (clashB h))) ?_ ?_
  · exact ev_last fun k => by rw [spec_l4Can_h2_eq, if_neg (by omega)]; rfl
  · intro n o rest hn ho _ ih
    refine ev_shift ?_
    simp only [spec_l4Can_h2_eq, rdT_get (e := HoldK) ho, wrap_nat (show n < 9223372036854775807 by omega), ev_ite_iff, ev_none_iff, ev_some_iff, List.any_cons]
    rw [if_pos (by omega), if_pos (by omega), if_pos (by omega)]
    unfold clashB at ih ⊢
    by_cases h1 : o.1 = h.1 <;> by_cases h2 : h.2 = 2 <;> by_cases h3 : o.2 = 2 <;> simpa [h1, h2, h3] using ih
theorem l4Elder_ev (x : LockT) (t : Int) (hl : x.2.1.length ≤ 1048576) : Ev (fun k => spec_l4Elder k x t) (!x.2.1.any fun o => decide (o.1 < t)) := by
  refine ev_congr (fun k => spec_l4Elder_eq k x t) ?_
  refine drop_ind0 x.2.1 (fun n rest => Ev (fun k => spec_l4Elder_h2 k t x.2.1 (x.2.1.length : Int) (n : Int)) (!rest.any fun o => decide (o.1 < t))) ?_ ?_
  · exact ev_last fun k => by rw [spec_l4Elder_h2_eq, if_neg (by omega)]; rfl
  · intro n o rest hn ho _ ih
    refine ev_shift ?_
    simp only [spec_l4Elder_h2_eq, rdT_get (e := HoldK) ho, wrap_nat (show n < 9223372036854775807 by omega), ev_ite_iff, ev_none_iff, ev_some_iff, List.any_cons]
    rw [if_pos (by omega), if_pos (by omega), if_pos (by omega)]
    by_cases h1 : o.1 < t
    · have h3 : ¬ o.1 = t := by omega
      simp [h1, h3]
    · have h2 : decide (o.1 < t) = false := by simp [h1]
      rw [if_neg h1]
      simp only [h2, Bool.false_or, ite_self]
      exact ih
theorem idx_nonneg {α : Type} (p : α → Bool) : ∀ (l : List α) (n : Nat), decide (0 ≤ idxFrom p n l) = l.any p
  | [], n => rfl
  | x :: l, n => by
    rw [List.any_cons, ← idx_nonneg p l (n + 1), idxFrom]
    by_cases h : p x = true <;> simp [h]
theorem has1_ev (l : List HoldT) (hl : l.length ≤ 1048576) (t : Int) : Ev (fun k => slices_ContainsFunc k l (t, ())) (l.any fun o => decide (o.1 < t)) := by
  have key := drop_ind0 l (fun n rest => Ev (fun k => slices_IndexFunc_h2 k l (t, ()) (l.length : Int) (n : Int)) (idxFrom (fun o : HoldT => decide (o.1 < t)) n rest)) ?_ ?_
  · refine ev_congr (fun k => slices_ContainsFunc_eq k l _) ?_
    simp only [ev_bind_iff (ev_congr (fun k => slices_IndexFunc_eq k l (t, ())) key), ev_some_iff, idx_nonneg]
  · exact ev_last fun k => by rw [slices_IndexFunc_h2_eq, if_neg (by omega)]; rfl
  · intro n o rest hn ho _ ih
    refine ev_shift ?_
    simp only [slices_IndexFunc_h2_eq, impl_Lock_isElder_1_eq, rdT_get (e := HoldK) ho, wrap_nat (show n < 9223372036854775807 by omega), Option.bind_some, ev_ite_iff, ev_none_iff, ev_some_iff, idxFrom]
    rw [if_pos (by omega), if_pos (by omega), if_pos (by omega)]
    by_cases h1 : o.1 < t <;> simpa [h1] using ih
theorem has2_ev (l : List HoldT) (hl : l.length ≤ 1048576) (t : Int) : Ev (fun k => slices_ContainsFunc_i1 k l (t, ())) (l.any fun o => decide (o.1 ≤ t)) := by
  have key := drop_ind0 l (fun n rest => Ev (fun k => slices_IndexFunc_i1_h2 k l (t, ()) (l.length : Int) (n : Int)) (idxFrom (fun o : HoldT => decide (o.1 ≤ t)) n rest)) ?_ ?_
  · refine ev_congr (fun k => slices_ContainsFunc_i1_eq k l _) ?_
    simp only [ev_bind_iff (ev_congr (fun k => slices_IndexFunc_i1_eq k l (t, ())) key), ev_some_iff, idx_nonneg]
  · exact ev_last fun k => by rw [slices_IndexFunc_i1_h2_eq, if_neg (by omega)]; rfl
  · intro n o rest hn ho _ ih
    refine ev_shift ?_
    simp only [slices_IndexFunc_i1_h2_eq, impl_Lock_isElder_2_eq, rdT_get (e := HoldK) ho, wrap_nat (show n < 9223372036854775807 by omega), Option.bind_some, ev_ite_iff, ev_none_iff, ev_some_iff, idxFrom]
    rw [if_pos (by omega), if_pos (by omega), if_pos (by omega)]
    by_cases h1 : o.1 ≤ t <;> simpa [h1] using ih
theorem has3_ev (l : List HoldT) (hl : l.length ≤ 1048576) (h : HoldT) : Ev (fun k => slices_ContainsFunc_i2 k l (h, ())) (l.any (clashB h)) := by
  have key := drop_ind0 l (fun n rest => Ev (fun k => slices_IndexFunc_i2_h2 k l (h, ()) (l.length : Int) (n : Int)) (idxFrom (clashB h) n rest)) ?_ ?_
  · refine ev_congr (fun k => slices_ContainsFunc_i2_eq k l _) ?_
    simp only [ev_bind_iff (ev_congr (fun k => slices_IndexFunc_i2_eq k l (h, ())) key), ev_some_iff, idx_nonneg]
  · exact ev_last fun k => by rw [slices_IndexFunc_i2_h2_eq, if_neg (by omega)]; rfl
  · intro n o rest hn ho _ ih
    have hc : Ev (fun k => impl_Lock_may_1 k o h) (clashB h o) := by
      refine ev_congr (fun k => impl_Lock_may_1_eq k o h) ?_
      simp only [ev_ite_iff, ev_some_iff, clashB]
      by_cases h1 : o.1 = h.1 <;> by_cases h2 : h.2 = 2 <;> simp [h1, h2]
    refine ev_shift ?_
    simp only [slices_IndexFunc_i2_h2_eq, rdT_get (e := HoldK) ho, wrap_nat (show n < 9223372036854775807 by omega), ev_bind_iff hc, ev_ite_iff, ev_none_iff, ev_some_iff, idxFrom]
    rw [if_pos (by omega), if_pos (by omega), if_pos (by omega)]
    cases h1 : clashB h o <;> simpa [h1] using ih
theorem isElder_ev (x : LockT) (t : Int) (w : List HoldT) (h1 : x.2.1.length ≤ 1048576) (h2 : w.length ≤ 1048576) : Ev (fun k => impl_Lock_isElder k x t w) (!(x.2.1.any fun o => decide (o.1 < t)) && !(w.any fun o => decide (o.1 ≤ t))) := by
  refine ev_congr (fun k => impl_Lock_isElder_eq k x t w) ?_
  simp only [ev_bind_iff (has1_ev x.2.1 h1 t), ev_bind_iff (has2_ev w h2 t), ev_ite_iff, ev_some_iff]
  cases (x.2.1.any fun o => decide (o.1 < t)) <;> simp
theorem may_ev (x : LockT) (h : HoldT) (h1 : x.2.1.length ≤ 1048576) : Ev (fun k => impl_Lock_may k x h) (!x.2.1.any (clashB h)) :=
  ev_congr (fun k => impl_Lock_may_eq k x h) ((ev_bind_iff (has3_ev x.2.1 h1 h)).2 (ev_some _))

/-- those that wait stand with the younger ahead -/
def decFrom (ws : List HoldT) (j : Nat) : Prop := ∀ i w, j ≤ i → ws[i]? = some w → ∀ o ∈ ws.take i, w.1 < o.1
/-- those that wait -/
theorem waits_ev (l : List LockT) (hl : l.length ≤ 1048576) (x : LockT) (n : Nat) (hn : n < l.length) (h1 : x.2.1.length ≤ 1048576) (h8 : x.2.2.length ≤ 8)
    {R : Prop} (hnext : ∀ ws m, Rel2 ws m → ws.length ≤ 8 * (n + 1) → ∃ b, (b = true → R) ∧ Ev (fun k => spec_GoodLocks_h3 k l ws l (l.length : Int) ((n + 1 : Nat) : Int)) b ∧ Ev (fun k => impl_areLocks_h3 k l m l (l.length : Int) ((n + 1 : Nat) : Int)) b) :
    ∀ ws m, Rel2 ws m → ws.length ≤ 8 * n → ∃ b, (b = true → R ∧ decFrom x.2.2 0) ∧ Ev (fun k => spec_GoodLocks_h14 k l ws x l (l.length : Int) (n : Int) x.2.2 (x.2.2.length : Int) 0) b ∧ Ev (fun k => impl_areLocks_h14 k l m x l (l.length : Int) (n : Int) x.2.2 (x.2.2.length : Int) 0) b := by
  have key := drop_ind0 x.2.2 (fun j rs => ∀ ws m, Rel2 ws m → ws.length ≤ 8 * n + j → (∀ p, 0 < j → x.2.2[j - 1]? = some p → ∀ o ∈ x.2.2.take j, p.1 ≤ o.1) → ∃ b, (b = true → R ∧ decFrom x.2.2 j) ∧ Ev (fun k => spec_GoodLocks_h14 k l ws x l (l.length : Int) (n : Int) x.2.2 (x.2.2.length : Int) (j : Int)) b ∧ Ev (fun k => impl_areLocks_h14 k l m x l (l.length : Int) (n : Int) x.2.2 (x.2.2.length : Int) (j : Int)) b) ?_ ?_
  · intro ws m hr hw
    exact key ws m hr (by omega) (fun p h => absurd h (by omega))
  · intro ws m hr hw _
    obtain ⟨b, b0, b1, b2⟩ := hnext ws m hr (by omega)
    refine ⟨b, fun h => ⟨b0 h, fun i w hi hw => by have := (List.getElem?_eq_some_iff.1 hw).1; omega⟩, ev_shift ?_, ev_shift ?_⟩
    · simp only [spec_GoodLocks_h14_eq, wrap_nat (show n < 9223372036854775807 by omega), ev_ite_iff]
      rw [if_neg (by omega)]
      exact b1
    · simp only [impl_areLocks_h14_eq, wrap_nat (show n < 9223372036854775807 by omega), ev_ite_iff]
      rw [if_neg (by omega)]
      exact b2
  · intro j w rs hj hw _ ih ws m hr hlen hdec
    have e5 : ((x.2.2.take j).any fun o => decide (o.1 ≤ w.1)) = (decide (0 < j) && decide ((rdT HoldK x.2.2 ((j : Int) - 1)).1 ≤ w.1)) := by
      cases j with
      | zero => rfl
      | succ i =>
        obtain ⟨p, hp⟩ : ∃ p, x.2.2[i]? = some p := ⟨_, List.getElem?_eq_getElem (by omega)⟩
        have e : ((i + 1 : Nat) : Int) - 1 = (i : Int) := by omega
        rw [e, rdT_get (e := HoldK) hp]
        have hd := hdec p (by omega) hp
        have hmem : p ∈ x.2.2.take (i + 1) := by rw [take_snoc hp]; simp
        rw [Bool.eq_iff_iff]
        simp only [List.any_eq_true, decide_eq_true_eq, Bool.and_eq_true]
        constructor
        · rintro ⟨o, ho, h⟩
          exact ⟨by omega, Int.le_trans (hd o ho) h⟩
        · rintro ⟨_, h⟩
          exact ⟨p, hmem, h⟩
    have hwl : ws.length ≤ 140737488355328 := by omega
    have htl : (x.2.2.take j).length ≤ 1048576 := by rw [List.length_take]; omega
    have hsl : (List.drop (Int.toNat 0) (List.take (Int.toNat (j : Int)) x.2.2)) = x.2.2.take j := by simp
    have hap : (ws.length + (List.length (List.cons w.1 [])) ≤ 17592186044416) := by simp only [List.length_cons, List.length_nil]; omega
    by_cases hok : holdB w = true ∧ hasB ws w.1 = false ∧ ((j : Int) = 0 → x.2.1.any (clashB w) = true) ∧ (x.2.1.any fun o => decide (o.1 < w.1)) = false ∧ ((x.2.2.take j).any fun o => decide (o.1 ≤ w.1)) = false
    · obtain ⟨k1, k2, k3, k4, k5⟩ := hok
      have k6 : txnB w.1 = true ∧ modeB w.2 = true := by simpa [holdB] using k1
      obtain ⟨b, b0, b1, b2⟩ := ih (ws ++ [w.1]) _ (rel_put hr w.1) (by simp only [List.length_append, List.length_cons, List.length_nil]; omega) (fun p _ hp o ho => by
        have : p = w := by
          rw [show j + 1 - 1 = j from rfl, hw] at hp
          exact (Option.some.inj hp).symm
        subst this
        rw [take_snoc hw] at ho
        rcases List.mem_append.1 ho with ho | ho
        · have := List.any_eq_false.1 k5 o ho
          simp only [decide_eq_true_eq] at this
          omega
        · have := List.mem_singleton.1 ho; subst this; omega)
      have k7 := k5
      rw [e5] at k7
      refine ⟨b, fun h => ⟨(b0 h).1, fun i w' hi hw' o ho => ?_⟩, ev_shift ?_, ev_shift ?_⟩
      · rcases Nat.eq_or_lt_of_le hi with e | hlt
        · subst e
          rw [hw] at hw'; cases hw'
          have := List.any_eq_false.1 k5 o ho
          simp only [decide_eq_true_eq] at this
          omega
        · exact (b0 h).2 i w' hlt hw' o ho
      · simp only [spec_GoodLocks_h14_eq, rdT_get (e := HoldK) hw, wrap_nat (show j < 9223372036854775807 by omega), wrap_pred (show j < 9223372036854775807 by omega), ev_bind_iff (l4Hold_ev w), ev_bind_iff (l1Has_ev ws w.1 hwl), ev_bind_iff (l4Can_ev x w h1), ev_bind_iff (l4Elder_ev x w.1 h1), ev_ite_iff, ev_some_iff, ev_none_iff, k1, k2, k4, if_pos hap]
        rw [if_pos (by omega), if_pos (by omega), if_pos (by omega)]
        by_cases hj0 : (j : Int) = 0
        · have : ¬ (0 : Int) < (j : Int) := by omega
          simp only [if_pos hj0, k3 hj0, if_neg this]
          simpa using b1
        · have c1 : (0 : Int) < (j : Int) := by omega
          have c2 : (0 : Int) ≤ (j : Int) - 1 := by omega
          have c3 : (j : Int) - 1 < (x.2.2.length : Int) := by omega
          have c4 : ¬ (rdT HoldK x.2.2 ((j : Int) - 1)).1 ≤ w.1 := by simpa [show 0 < j by omega] using k7
          simp only [if_neg hj0, if_pos c1, if_pos c2, if_pos c3, if_neg c4]
          simpa using b1
      · simp only [impl_areLocks_h14_eq, rdT_get (e := HoldK) hw, wrap_nat (show j < 9223372036854775807 by omega), hsl, ev_bind_iff (isTxn_ev _), ev_bind_iff (isMode_ev _), ev_bind_iff (isElder_ev x w.1 (x.2.2.take j) h1 htl), ev_bind_iff (may_ev x w h1), hr w.1, ev_ite_iff, ev_some_iff, ev_none_iff, k6.1, k6.2, k2, k4, k5]
        rw [if_pos (by omega), if_pos (by omega), if_pos (by omega)]
        by_cases hj0 : (j : Int) = 0
        · have c2 : (0 : Int) ≤ (j : Int) := by omega
          have c3 : (j : Int) ≤ (x.2.2.length : Int) := by omega
          simp only [if_pos hj0, k3 hj0, if_pos c2, if_pos c3]
          simpa using b2
        · have c2 : (0 : Int) ≤ (j : Int) := by omega
          have c3 : (j : Int) ≤ (x.2.2.length : Int) := by omega
          simp only [if_neg hj0, if_pos c2, if_pos c3]
          simpa using b2
    · have k5 : j = 0 → ((x.2.2.take j).any fun o => decide (o.1 ≤ w.1)) = false := fun h => by subst h; rfl
      refine ⟨false, fun h => (by cases h), ev_shift ?_, ev_shift ?_⟩
      · simp only [spec_GoodLocks_h14_eq, rdT_get (e := HoldK) hw, wrap_nat (show j < 9223372036854775807 by omega), wrap_pred (show j < 9223372036854775807 by omega), ev_bind_iff (l4Hold_ev w), ev_bind_iff (l1Has_ev ws w.1 hwl), ev_bind_iff (l4Can_ev x w h1), ev_bind_iff (l4Elder_ev x w.1 h1), ev_ite_iff, ev_some_iff, ev_none_iff, if_pos hap]
        rw [if_pos (by omega), if_pos (by omega), if_pos (by omega)]
        cases q1 : holdB w with
        | false => simp
        | true =>
        cases q2 : hasB ws w.1 with
        | true => simp
        | false =>
        by_cases hj0 : (j : Int) = 0
        · cases q3 : x.2.1.any (clashB w) with
          | false => simp [hj0]
          | true =>
          cases q4 : (x.2.1.any fun o => decide (o.1 < w.1)) with
          | true => simp [hj0]
          | false => exact absurd ⟨q1, q2, fun _ => q3, q4, k5 (by omega)⟩ hok
        · cases q4 : (x.2.1.any fun o => decide (o.1 < w.1)) with
          | true => simp [hj0]
          | false =>
          cases q5 : ((x.2.2.take j).any fun o => decide (o.1 ≤ w.1)) with
          | false => exact absurd ⟨q1, q2, fun h => absurd h hj0, q4, q5⟩ hok
          | true =>
            rw [e5] at q5
            have c1 : (0 : Int) < (j : Int) := by omega
            have c2 : (0 : Int) ≤ (j : Int) - 1 := by omega
            have c3 : (j : Int) - 1 < (x.2.2.length : Int) := by omega
            have c4 : (rdT HoldK x.2.2 ((j : Int) - 1)).1 ≤ w.1 := by simpa [show 0 < j by omega] using q5
            simp only [if_neg hj0, if_pos c1, if_pos c2, if_pos c3, if_pos c4]
            simp
      · simp only [impl_areLocks_h14_eq, rdT_get (e := HoldK) hw, wrap_nat (show j < 9223372036854775807 by omega), hsl, ev_bind_iff (isTxn_ev _), ev_bind_iff (isMode_ev _), ev_bind_iff (isElder_ev x w.1 (x.2.2.take j) h1 htl), ev_bind_iff (may_ev x w h1), hr w.1, ev_ite_iff, ev_some_iff, ev_none_iff]
        have c2 : (0 : Int) ≤ (j : Int) := by omega
        have c3 : (j : Int) ≤ (x.2.2.length : Int) := by omega
        rw [if_pos (by omega), if_pos (by omega), if_pos (by omega)]
        cases p1 : txnB w.1 with
        | false => simp
        | true =>
        cases p2 : modeB w.2 with
        | false => simp
        | true =>
        have q1 : holdB w = true := by simp [holdB, p1, p2]
        cases q2 : hasB ws w.1 with
        | true => simp
        | false =>
        simp only [if_pos c2, if_pos c3]
        cases q4 : (x.2.1.any fun o => decide (o.1 < w.1)) with
        | true => simp
        | false =>
        cases q5 : ((x.2.2.take j).any fun o => decide (o.1 ≤ w.1)) with
        | true => simp
        | false =>
        by_cases hj0 : (j : Int) = 0
        · cases q3 : x.2.1.any (clashB w) with
          | false => simp [hj0]
          | true => exact absurd ⟨q1, q2, fun _ => q3, q4, q5⟩ hok
        · exact absurd ⟨q1, q2, fun h => absurd h hj0, q4, q5⟩ hok
/-- those that hold -/
theorem holds_ev (l : List LockT) (hl : l.length ≤ 1048576) (x : LockT) (n : Nat) (hn : n < l.length) (h1 : x.2.1.length ≤ 1048576) (ws : List Int) (m : List (Int × Bool))
    {R : Prop} (hnext : ∃ b, (b = true → R) ∧ Ev (fun k => spec_GoodLocks_h14 k l ws x l (l.length : Int) (n : Int) x.2.2 (x.2.2.length : Int) 0) b ∧ Ev (fun k => impl_areLocks_h14 k l m x l (l.length : Int) (n : Int) x.2.2 (x.2.2.length : Int) 0) b) :
    ∃ b, (b = true → R) ∧ Ev (fun k => spec_GoodLocks_h8 k l ws x l (l.length : Int) (n : Int) x.2.1 (x.2.1.length : Int) 0) b ∧ Ev (fun k => impl_areLocks_h8 k l m x l (l.length : Int) (n : Int) x.2.1 (x.2.1.length : Int) 0) b := by
  refine drop_ind0 x.2.1 (fun j rs => ∃ b, (b = true → R) ∧ Ev (fun k => spec_GoodLocks_h8 k l ws x l (l.length : Int) (n : Int) x.2.1 (x.2.1.length : Int) (j : Int)) b ∧ Ev (fun k => impl_areLocks_h8 k l m x l (l.length : Int) (n : Int) x.2.1 (x.2.1.length : Int) (j : Int)) b) ?_ ?_
  · obtain ⟨b, b0, b1, b2⟩ := hnext
    refine ⟨b, b0, ev_shift ?_, ev_shift ?_⟩
    · simp only [spec_GoodLocks_h8_eq, ev_ite_iff]
      rw [if_neg (by omega)]
      exact b1
    · simp only [impl_areLocks_h8_eq, ev_ite_iff]
      rw [if_neg (by omega)]
      exact b2
  · intro j w rs hj hw _ ih
    by_cases hok : txnB w.1 = true ∧ modeB w.2 = true ∧ ((0 : Int) < (j : Int) → ¬ w.1 ≤ (rdT HoldK x.2.1 ((j : Int) - 1)).1) ∧ (w.2 = 2 → ¬ (1 : Int) < (x.2.1.length : Int))
    · obtain ⟨k1, k2, k3, k4⟩ := hok
      have k0 : holdB w = true := by simp [holdB, k1, k2]
      obtain ⟨b, b0, b1, b2⟩ := ih
      refine ⟨b, b0, ev_shift ?_, ev_shift ?_⟩
      · simp only [spec_GoodLocks_h8_eq, rdT_get (e := HoldK) hw, wrap_nat (show j < 9223372036854775807 by omega), wrap_pred (show j < 9223372036854775807 by omega), ev_bind_iff (l4Hold_ev w), ev_ite_iff, ev_some_iff, ev_none_iff, k0]
        rw [if_pos (by omega), if_pos (by omega), if_pos (by omega)]
        repeat' split
        all_goals first | exact b1 | omega | simp_all
      · simp only [impl_areLocks_h8_eq, rdT_get (e := HoldK) hw, wrap_nat (show j < 9223372036854775807 by omega), wrap_pred (show j < 9223372036854775807 by omega), ev_bind_iff (isTxn_ev _), ev_bind_iff (isMode_ev _), ev_ite_iff, ev_some_iff, ev_none_iff, k1, k2]
        rw [if_pos (by omega), if_pos (by omega), if_pos (by omega)]
        repeat' split
        all_goals first | exact b2 | omega | simp_all
    · refine ⟨false, fun h => (by cases h), ev_shift ?_, ev_shift ?_⟩
      · simp only [spec_GoodLocks_h8_eq, rdT_get (e := HoldK) hw, wrap_nat (show j < 9223372036854775807 by omega), wrap_pred (show j < 9223372036854775807 by omega), ev_bind_iff (l4Hold_ev w), ev_ite_iff, ev_some_iff, ev_none_iff]
        rw [if_pos (by omega), if_pos (by omega), if_pos (by omega)]
        clear ih hnext
        cases p1 : txnB w.1 with
        | false => have q0 : holdB w = false := by simp [holdB, p1]
                   simp [q0]
        | true =>
        cases p2 : modeB w.2 with
        | false => have q0 : holdB w = false := by simp [holdB, p2]
                   simp [q0]
        | true =>
        have q0 : holdB w = true := by simp [holdB, p1, p2]
        simp only [q0]
        by_cases c0 : (0 : Int) < (j : Int)
        · have d1 : (0 : Int) ≤ (j : Int) - 1 := by omega
          have d2 : (j : Int) - 1 < (x.2.1.length : Int) := by omega
          by_cases c1 : w.1 ≤ (rdT HoldK x.2.1 ((j : Int) - 1)).1
          · simp only [if_pos c0, if_pos d1, if_pos d2, if_pos c1]; simp
          · by_cases c2 : w.2 = 2
            · by_cases c3 : (1 : Int) < (x.2.1.length : Int)
              · simp only [if_pos c0, if_pos d1, if_pos d2, if_neg c1, if_pos c2, if_pos c3]; simp
              · exact absurd ⟨p1, p2, fun _ => c1, fun _ => c3⟩ hok
            · exact absurd ⟨p1, p2, fun _ => c1, fun h => absurd h c2⟩ hok
        · by_cases c2 : w.2 = 2
          · by_cases c3 : (1 : Int) < (x.2.1.length : Int)
            · simp only [if_neg c0, if_pos c2, if_pos c3]; simp
            · exact absurd ⟨p1, p2, fun h => absurd h c0, fun _ => c3⟩ hok
          · exact absurd ⟨p1, p2, fun h => absurd h c0, fun h => absurd h c2⟩ hok
      · simp only [impl_areLocks_h8_eq, rdT_get (e := HoldK) hw, wrap_nat (show j < 9223372036854775807 by omega), wrap_pred (show j < 9223372036854775807 by omega), ev_bind_iff (isTxn_ev _), ev_bind_iff (isMode_ev _), ev_ite_iff, ev_some_iff, ev_none_iff]
        rw [if_pos (by omega), if_pos (by omega), if_pos (by omega)]
        clear ih hnext
        cases p1 : txnB w.1 with
        | false => simp
        | true =>
        cases p2 : modeB w.2 with
        | false => simp
        | true =>
        by_cases c0 : (0 : Int) < (j : Int)
        · have d1 : (0 : Int) ≤ (j : Int) - 1 := by omega
          have d2 : (j : Int) - 1 < (x.2.1.length : Int) := by omega
          by_cases c1 : w.1 ≤ (rdT HoldK x.2.1 ((j : Int) - 1)).1
          · simp only [if_pos c0, if_pos d1, if_pos d2, if_pos c1]; simp
          · by_cases c2 : w.2 = 2
            · by_cases c3 : (1 : Int) < (x.2.1.length : Int)
              · simp only [if_pos c0, if_pos d1, if_pos d2, if_neg c1, if_pos c2, if_pos c3]; simp
              · exact absurd ⟨p1, p2, fun _ => c1, fun _ => c3⟩ hok
            · exact absurd ⟨p1, p2, fun _ => c1, fun h => absurd h c2⟩ hok
        · by_cases c2 : w.2 = 2
          · by_cases c3 : (1 : Int) < (x.2.1.length : Int)
            · simp only [if_neg c0, if_pos c2, if_pos c3]; simp
            · exact absurd ⟨p1, p2, fun h => absurd h c0, fun _ => c3⟩ hok
          · exact absurd ⟨p1, p2, fun h => absurd h c0, fun h => absurd h c2⟩ hok
/-- what good locks are -/
structure Good (l : List LockT) (n : Nat) : Prop where
  rise : ∀ i y x, n ≤ i → 0 < i → l[i - 1]? = some y → l[i]? = some x → lessS y.1 x.1 = true
  dec : ∀ i x, n ≤ i → l[i]? = some x → decFrom x.2.2 0
  wl : ∀ i x, n ≤ i → l[i]? = some x → x.2.2.length ≤ 8
  len : l.length ≤ 20
theorem locks_ev (l : List LockT) (hl : l.length ≤ 1048576) (hB : ∀ x ∈ l, szBLock x) : ∃ b, (b = true → Good l 0) ∧ Ev (fun k => spec_GoodLocks k l) b ∧ Ev (fun k => impl_areLocks k l) b := by
  have key := drop_ind0 l (fun n rs => ∀ ws m, Rel2 ws m → ws.length ≤ 8 * n → ∃ b, (b = true → Good l n) ∧ Ev (fun k => spec_GoodLocks_h3 k l ws l (l.length : Int) (n : Int)) b ∧ Ev (fun k => impl_areLocks_h3 k l m l (l.length : Int) (n : Int)) b) ?_ ?_
  · obtain ⟨b, b0, b1, b2⟩ := key [] [] (fun n => rfl) (by simp)
    exact ⟨b, b0, ev_congr (fun k => spec_GoodLocks_eq k l) b1, ev_congr (fun k => impl_areLocks_eq k l) b2⟩
  · intro ws m hr _
    refine ⟨decide ((l.length : Int) ≤ 20), fun h => ⟨fun i y x hi _ _ hx => ?_, fun i x hi hx => ?_, fun i x hi hx => ?_, by have := of_decide_eq_true h; omega⟩, ev_last fun k => by rw [spec_GoodLocks_h3_eq, if_neg (by omega)], ev_last fun k => by rw [impl_areLocks_h3_eq, if_neg (by omega)]⟩
    all_goals (have := (List.getElem?_eq_some_iff.1 hx).1; omega)
  · intro n x rs hn hx _ ih ws m hr hlen
    obtain ⟨s1, s2, s3⟩ := hB x (List.mem_of_getElem? hx)
    by_cases hok : keyB x.1 = true ∧ ((0 : Int) < (n : Int) → lessS (rdT LockK l ((n : Int) - 1)).1 x.1 = true) ∧ ¬ (x.2.1.length : Int) = 0 ∧ ¬ (8 : Int) < (x.2.2.length : Int)
    · obtain ⟨k1, k2, k3, k4⟩ := hok
      obtain ⟨b, b0, b1, b2⟩ := holds_ev l hl x n hn s2 ws m (waits_ev l hl x n hn s2 (by omega) ih ws m hr hlen)
      have gd : b = true → Good l n := fun h => by
        obtain ⟨g, hdec⟩ := b0 h
        refine ⟨fun i y x' hi h0 hy hx' => ?_, fun i x' hi hx' => ?_, fun i x' hi hx' => ?_, g.len⟩
        · rcases Nat.eq_or_lt_of_le hi with e | hlt
          · subst e
            rw [hx] at hx'; cases hx'
            have := k2 (by omega)
            rw [show (n : Int) - 1 = ((n - 1 : Nat) : Int) by omega, rdT_get (e := LockK) hy] at this
            exact this
          · exact g.rise i y x' hlt h0 hy hx'
        · rcases Nat.eq_or_lt_of_le hi with e | hlt
          · subst e
            rw [hx] at hx'; cases hx'
            exact hdec
          · exact g.dec i x' hlt hx'
        · rcases Nat.eq_or_lt_of_le hi with e | hlt
          · subst e
            rw [hx] at hx'; cases hx'
            omega
          · exact g.wl i x' hlt hx'
      refine ⟨b, gd, ev_shift ?_, ev_shift ?_⟩
      · simp only [spec_GoodLocks_h3_eq, rdT_get (e := LockK) hx, wrap_pred (show n < 9223372036854775807 by omega), ev_bind_iff (l1Key_ev x.1 (by omega)), ev_ite_iff, ev_some_iff, ev_none_iff, k1]
        rw [if_pos (by omega), if_pos (by omega), if_pos (by omega)]
        repeat' split
        all_goals first | exact b1 | omega | simp_all
      · simp only [impl_areLocks_h3_eq, rdT_get (e := LockK) hx, wrap_pred (show n < 9223372036854775807 by omega), ev_bind_iff (isKey_ev x.1), ev_ite_iff, ev_some_iff, ev_none_iff, k1]
        rw [if_pos (by omega), if_pos (by omega), if_pos (by omega)]
        repeat' split
        all_goals first | exact b2 | omega | simp_all
    · refine ⟨false, fun h => (by cases h), ev_shift ?_, ev_shift ?_⟩
      · simp only [spec_GoodLocks_h3_eq, rdT_get (e := LockK) hx, wrap_pred (show n < 9223372036854775807 by omega), ev_bind_iff (l1Key_ev x.1 (by omega)), ev_ite_iff, ev_some_iff, ev_none_iff]
        rw [if_pos (by omega), if_pos (by omega), if_pos (by omega)]
        clear ih
        cases p1 : keyB x.1 with
        | false => simp
        | true =>
        by_cases c2 : (x.2.1.length : Int) = 0
        · by_cases c0 : (0 : Int) < (n : Int)
          · have d1 : (0 : Int) ≤ (n : Int) - 1 := by omega
            have d2 : (n : Int) - 1 < (l.length : Int) := by omega
            cases c1 : lessS (rdT LockK l ((n : Int) - 1)).1 x.1 <;> simp only [if_pos c0, if_pos d1, if_pos d2, if_pos c2] <;> simp
          · simp only [if_neg c0, if_pos c2]; simp
        · by_cases c3 : (8 : Int) < (x.2.2.length : Int)
          · by_cases c0 : (0 : Int) < (n : Int)
            · have d1 : (0 : Int) ≤ (n : Int) - 1 := by omega
              have d2 : (n : Int) - 1 < (l.length : Int) := by omega
              cases c1 : lessS (rdT LockK l ((n : Int) - 1)).1 x.1 <;> simp only [if_pos c0, if_pos d1, if_pos d2, if_neg c2, if_pos c3] <;> simp
            · simp only [if_neg c0, if_neg c2, if_pos c3]; simp
          · by_cases c0 : (0 : Int) < (n : Int)
            · have d1 : (0 : Int) ≤ (n : Int) - 1 := by omega
              have d2 : (n : Int) - 1 < (l.length : Int) := by omega
              cases c1 : lessS (rdT LockK l ((n : Int) - 1)).1 x.1 with
              | false => simp only [if_pos c0, if_pos d1, if_pos d2]; simp
              | true => exact absurd ⟨p1, fun _ => c1, c2, c3⟩ hok
            · exact absurd ⟨p1, fun h => absurd h c0, c2, c3⟩ hok
      · simp only [impl_areLocks_h3_eq, rdT_get (e := LockK) hx, wrap_pred (show n < 9223372036854775807 by omega), ev_bind_iff (isKey_ev x.1), ev_ite_iff, ev_some_iff, ev_none_iff]
        rw [if_pos (by omega), if_pos (by omega), if_pos (by omega)]
        clear ih
        cases p1 : keyB x.1 with
        | false => simp
        | true =>
        by_cases c2 : (x.2.1.length : Int) = 0
        · by_cases c0 : (0 : Int) < (n : Int)
          · have d1 : (0 : Int) ≤ (n : Int) - 1 := by omega
            have d2 : (n : Int) - 1 < (l.length : Int) := by omega
            cases c1 : lessS (rdT LockK l ((n : Int) - 1)).1 x.1 <;> simp only [if_pos c0, if_pos d1, if_pos d2, if_pos c2] <;> simp
          · simp only [if_neg c0, if_pos c2]; simp
        · by_cases c3 : (8 : Int) < (x.2.2.length : Int)
          · by_cases c0 : (0 : Int) < (n : Int)
            · have d1 : (0 : Int) ≤ (n : Int) - 1 := by omega
              have d2 : (n : Int) - 1 < (l.length : Int) := by omega
              cases c1 : lessS (rdT LockK l ((n : Int) - 1)).1 x.1 <;> simp only [if_pos c0, if_pos d1, if_pos d2, if_neg c2, if_pos c3] <;> simp
            · simp only [if_neg c0, if_neg c2, if_pos c3]; simp
          · by_cases c0 : (0 : Int) < (n : Int)
            · have d1 : (0 : Int) ≤ (n : Int) - 1 := by omega
              have d2 : (n : Int) - 1 < (l.length : Int) := by omega
              cases c1 : lessS (rdT LockK l ((n : Int) - 1)).1 x.1 with
              | false => simp only [if_pos c0, if_pos d1, if_pos d2]; simp
              | true => exact absurd ⟨p1, fun _ => c1, c2, c3⟩ hok
            · exact absurd ⟨p1, fun h => absurd h c0, c2, c3⟩ hok

/-! ### markhold -/
/-! marks on rows of holds -/
def emHold (m : Int) : HoldT := (m, m + 1)
theorem upHold {xs : List HoldT} {n : Nat} {x : HoldT} (hx : xs[n]? = some x) (v0 v1 : Int) :
    upAt HoldK [1] (.int .i64) v1 (upAt HoldK [0] (.int .i64) v0 xs (n : Int)) (n : Int) = xs.set n (v0, v1) := by
  have hn : n < xs.length := (List.getElem?_eq_some_iff.1 hx).1
  rw [upAt_get (e := HoldK) (k := .int .i64) (w := (v0, x.2)) hx rfl, upAt_set (e := HoldK) (k := .int .i64) (w := (v0, v1)) hn rfl]
theorem upLenHold (p : List Nat) (k : Kind) (y : k.T) (l : List HoldT) (i : Int) : @List.length HoldT (upAt HoldK p k y l i) = @List.length HoldT l := upAt_len (e := HoldK)
theorem markHoldS_ev (l : List HoldT) (m : Int) (h0 : 0 ≤ m) (hm : m + 2 * l.length ≤ 4611686018427387904) : Ev (fun k => laws_markHoldS k l m) (mkList emHold m 2 l.length, m + 2 * (l.length : Int)) := by
  refine ev_congr (fun k => laws_markHoldS_eq k l m) ?_
  refine mark_loop (fun k l c i => laws_markHoldS_h2 k l c i) emHold m 2 l.length (fun k xs c hx => ?_) (fun n xs r hn hx H => ?_) l rfl
  · rw [laws_markHoldS_h2_eq, if_neg (by omega)]
  · have e1 : wrap64 (m + 2 * (n : Int) + 1) = m + 2 * (n : Int) + 1 := wrap_of (by omega) (by omega)
    have e2 : wrap64 (m + 2 * (n : Int) + 1 + 1) = m + 2 * ((n + 1 : Nat) : Int) := by rw [wrap_of (by omega) (by omega)]; omega
    have hnx : n < xs.length := by omega
    have hg : xs[n]? = some xs[n] := List.getElem?_eq_getElem hnx
    generalize xs[n] = x at hg
    have d2 : (n : Int) < (xs.length : Int) := by omega
    have d3 : (0 : Int) ≤ (n : Int) := by omega
    refine ev_shift ?_
    simp only [laws_markHoldS_h2_eq, ev_ite_iff, e1, e2, wrap_nat (show n < 9223372036854775807 by omega), upLenHold, if_pos d2, if_pos d3, upHold hg]
    exact H

/-! ### cats -/
theorem wrap_i64 {x : Int} (h0 : -9223372036854775808 ≤ x) (h1 : x ≤ 9223372036854775807) : IntKind.wrap .i64 x = x := by
  rw [← wrapK_eq]; unfold wrapK; rw [if_pos rfl]; exact wrap_of h0 h1
theorem catS_size0 (a b : ByteArray) : (catS a b).size = a.size + b.size := by
  show (catS a b).data.size = a.data.size + b.data.size
  simp [catS]

/-! ### mtext -/
theorem mt_ex : ∀ (n : Nat) (acc : ByteArray), acc.size + n ≤ 1099511627776 → ∃ r, Ev (fun k => laws_markText_h4 k (n : Int) acc) r := by
  intro n
  induction n using Nat.strongRecOn with
  | ind n ih =>
    intro acc ha
    by_cases h0 : n = 0
    · subst h0
      refine ⟨catS (ByteArray.mk (Array.mk (List.cons 109 []))) acc, ev_last fun k => ?_⟩
      rw [laws_markText_h4_eq, if_neg (by omega), if_pos (by have : (ByteArray.mk (Array.mk (List.cons 109 []))).size = 1 := rfl; omega)]
    · have hd : Int.tdiv (n : Int) 10 = ((n / 10 : Nat) : Int) := by rw [Int.tdiv_eq_ediv_of_nonneg (by omega)]; omega
      obtain ⟨r, hr⟩ := ih (n / 10) (by omega) (catS (bytesOf [IntKind.wrap .u8 (wrap64 (48 + Int.tmod (n : Int) 10))]) acc) (by
        rw [catS_size0]
        have : (bytesOf [IntKind.wrap .u8 (wrap64 (48 + Int.tmod (n : Int) 10))]).size = 1 := rfl
        omega)
      refine ⟨r, ev_shift ?_⟩
      simp only [laws_markText_h4_eq, ev_ite_iff, hd, wrap_i64 (x := ((n / 10 : Nat) : Int)) (by omega) (by omega)]
      have : (bytesOf [IntKind.wrap .u8 (wrap64 (48 + Int.tmod (n : Int) 10))]).size = 1 := rfl
      rw [if_pos (by omega), if_pos (by omega)]
      exact hr
theorem mark_ex (n : Int) (hn : n ≤ 1073741824) : ∃ r, Ev (fun k => laws_markText k n) r := by
  by_cases h : n ≤ 0
  · exact ⟨_, ev_congr (fun k => laws_markText_eq k n) (ev_if_pos h (ev_some _))⟩
  · obtain ⟨r, hr⟩ := mt_ex n.toNat (ByteArray.mk (Array.mk [])) (by have : (ByteArray.mk (Array.mk [])).size = 0 := rfl; omega)
    refine ⟨r, ev_congr (fun k => laws_markText_eq k n) (ev_if_neg h ?_)⟩
    rw [show ((n.toNat : Nat) : Int) = n by omega] at hr
    exact hr
open Classical in
noncomputable def mtx (n : Int) : ByteArray := if h : ∃ r, Ev (fun k => laws_markText k n) r then Classical.choose h else ByteArray.mk (Array.mk [])
theorem mtx_ev (n : Int) (hn : n ≤ 1073741824) : Ev (fun k => laws_markText k n) (mtx n) := by
  have h := mark_ex n hn
  unfold mtx
  rw [dif_pos h]
  exact Classical.choose_spec h

/-! ### mtext2 -/
/-- a mark's text, whatever the mark -/
theorem mt_ex2 : ∀ (d n : Nat) (acc : ByteArray), n < 10 ^ d → n ≤ 4611686018427387904 → acc.size + d ≤ 1099511627776 → ∃ r, Ev (fun k => laws_markText_h4 k (n : Int) acc) r := by
  intro d
  induction d with
  | zero =>
    intro n acc hn _ ha
    have : n = 0 := by simpa using hn
    subst this
    refine ⟨catS (ByteArray.mk (Array.mk (List.cons 109 []))) acc, ev_last fun k => ?_⟩
    rw [laws_markText_h4_eq, if_neg (by omega), if_pos (by have : (ByteArray.mk (Array.mk (List.cons 109 []))).size = 1 := rfl; omega)]
  | succ d ih =>
    intro n acc hn hb ha
    by_cases h0 : n = 0
    · subst h0
      refine ⟨catS (ByteArray.mk (Array.mk (List.cons 109 []))) acc, ev_last fun k => ?_⟩
      rw [laws_markText_h4_eq, if_neg (by omega), if_pos (by have : (ByteArray.mk (Array.mk (List.cons 109 []))).size = 1 := rfl; omega)]
    · have hd : Int.tdiv (n : Int) 10 = ((n / 10 : Nat) : Int) := by rw [Int.tdiv_eq_ediv_of_nonneg (by omega)]; omega
      obtain ⟨r, hr⟩ := ih (n / 10) (catS (bytesOf [IntKind.wrap .u8 (wrap64 (48 + Int.tmod (n : Int) 10))]) acc) (by
        rw [Nat.pow_succ] at hn; omega) (by omega) (by
        rw [catS_size0]
        have : (bytesOf [IntKind.wrap .u8 (wrap64 (48 + Int.tmod (n : Int) 10))]).size = 1 := rfl
        omega)
      refine ⟨r, ev_shift ?_⟩
      simp only [laws_markText_h4_eq, ev_ite_iff, hd, wrap_i64 (x := ((n / 10 : Nat) : Int)) (by omega) (by omega)]
      have : (bytesOf [IntKind.wrap .u8 (wrap64 (48 + Int.tmod (n : Int) 10))]).size = 1 := rfl
      rw [if_pos (by omega), if_pos (by omega)]
      exact hr
theorem mark_ex2 (n : Int) (hn : n ≤ 4611686018427387904) : ∃ r, Ev (fun k => laws_markText k n) r := by
  by_cases h : n ≤ 0
  · exact ⟨_, ev_congr (fun k => laws_markText_eq k n) (ev_if_pos h (ev_some _))⟩
  · obtain ⟨r, hr⟩ := mt_ex2 19 n.toNat (ByteArray.mk (Array.mk [])) (by omega) (by omega) (by have : (ByteArray.mk (Array.mk [])).size = 0 := rfl; omega)
    refine ⟨r, ev_congr (fun k => laws_markText_eq k n) (ev_if_neg h ?_)⟩
    rw [show ((n.toNat : Nat) : Int) = n by omega] at hr
    exact hr

/-! ### marklock -/
/-! marks on locks: that they come to an end -/
theorem upLock {xs : List LockT} {n : Nat} {x : LockT} (hx : xs[n]? = some x) (v : ByteArray) : upAt LockK [0] .str v xs (n : Int) = xs.set n (v, x.2) := upAt_get (e := LockK) (k := .str) hx rfl
theorem markLockS_ex (l : List LockT) (hl : l.length ≤ 1048576) (hB : ∀ x ∈ l, szBLock x) : ∃ r, Ev (fun k => laws_markLockS k l 1) r ∧ 0 ≤ r.2 := by
  have key := up_ind l.length (fun n => ∀ (xs : List LockT) (c : Int), xs.length = l.length → xs.drop n = l.drop n → 0 ≤ c → c ≤ 1 + 4194305 * (n : Int) → ∃ r, Ev (fun k => laws_markLockS_h2 k xs c (n : Int)) r ∧ 0 ≤ r.2) ?_ ?_ 0 (by omega)
  · obtain ⟨r, h1, h2⟩ := key l 1 rfl rfl (by omega) (by omega)
    exact ⟨r, ev_congr (fun k => laws_markLockS_eq k l 1) h1, h2⟩
  · intro xs c hx _ h0 _
    exact ⟨(xs, c), ev_last fun k => by rw [laws_markLockS_h2_eq, if_neg (by omega)], h0⟩
  · intro n hn ih xs c hx hd h0 hc
    have hg : xs[n]? = some l[n] := by
      have := congrArg (fun z : List LockT => z[0]?) hd
      simp only [List.getElem?_drop, Nat.add_zero] at this
      rw [this, List.getElem?_eq_getElem hn]
    obtain ⟨s1, s2, s3⟩ := hB l[n] (List.getElem_mem hn)
    generalize l[n] = x at hg s1 s2 s3
    have hnx : n < xs.length := by omega
    obtain ⟨t, ht⟩ := mark_ex2 c (by omega)
    have e1 : wrap64 (c + 1) = c + 1 := wrap_of (by omega) (by omega)
    have m1 := markHoldS_ev x.2.1 (c + 1) (by omega) (by omega)
    have m2 := markHoldS_ev x.2.2 (c + 1 + 2 * (x.2.1.length : Int)) (by omega) (by omega)
    have d2 : (n : Int) < (xs.length : Int) := by omega
    have d3 : (0 : Int) ≤ (n : Int) := by omega
    generalize mkList emHold (c + 1) 2 x.2.1.length = q1 at m1
    generalize mkList emHold (c + 1 + 2 * (x.2.1.length : Int)) 2 x.2.2.length = q2 at m2
    obtain ⟨r, h1, h2⟩ := ih (((xs.set n (t, x.2)).set n (t, (q1, x.2.2))).set n (t, (q1, q2))) (c + 1 + 2 * (x.2.1.length : Int) + 2 * (x.2.2.length : Int)) (by simpa using hx) (by
      rw [List.drop_set_of_lt (by omega), List.drop_set_of_lt (by omega), List.drop_set_of_lt (by omega)]
      have := congrArg (List.drop 1) hd
      simpa only [List.drop_drop] using this) (by omega) (by omega)
    refine ⟨r, ev_shift ?_, h2⟩
    clear ih hd hB
    have g1 : ((xs.set n (t, x.2)) : List LockT)[n]? = some (t, x.2) := List.getElem?_set_self hnx
    have g2 : (((xs.set n (t, x.2)).set n (t, (q1, x.2.2))) : List LockT)[n]? = some (t, (q1, x.2.2)) := List.getElem?_set_self (by simpa using hnx)
    simp only [laws_markLockS_h2_eq, ev_ite_iff, ev_bind_iff ht, upLock hg, rdT_get (e := LockK) g1, e1, ev_bind_iff m1, Int.toNat_natCast, List.length_set, rdT_get (e := LockK) g2, ev_bind_iff m2, wrap_nat (show n < 9223372036854775807 by omega), if_pos d2, if_pos d3]
    exact h1

/-! ### int -/
theorem eqIntS_ev (l) (hl : l.length ≤ 140737488355328) : Ev (fun k => laws_eqIntS k l l) true := by
  refine ev_congr (fun k => laws_eqIntS_eq k l l) ?_
  simp only [ev_ite_iff]
  rw [if_neg (by simp)]
  exact eq_row0 (e := .int .i64) (l := l) (c := fun x y => x = y) (fun k a b i => laws_eqIntS_h4_eq k a b i) (fun x => rfl) (by omega)

/-! ### markint -/
theorem markIntS_ev (l : List Int) (m : Int) (h0 : 0 ≤ m) (hm : m + l.length ≤ 1073741824) : Ev (fun k => laws_markIntS k l m) (mkList (fun k => k) m 1 l.length, m + 1 * (l.length : Int)) := by
  refine ev_congr (fun k => laws_markIntS_eq k l m) ?_
  refine mark_loop (fun k l c i => laws_markIntS_h2 k l c i) (fun k => k) m 1 l.length (fun k xs c hx => ?_) (fun n xs r hn hx H => ?_) l rfl
  · rw [laws_markIntS_h2_eq, if_neg (by omega)]
  · refine ev_shift ?_
    simp only [laws_markIntS_h2_eq, ev_ite_iff, Int.toNat_natCast, wrap_nat (show n < 9223372036854775807 by omega), wrap_of (x := m + 1 * (n : Int) + 1) (by omega) (by omega)]
    rw [if_pos (by omega), if_pos (by omega), if_pos (by omega)]
    rw [show m + 1 * (n : Int) + 1 = m + 1 * ((n + 1 : Nat) : Int) by omega]
    exact H

/-! ### heldint -/
theorem heldIntS_ev (m : Int) (N : Nat) (h0 : 0 ≤ m) (hm : m + N ≤ 1073741824) : Ev (fun k => laws_heldIntS k (mkList (fun k => k) m 1 N) m) (m + 1 * (N : Int)) := by
  refine ev_congr (fun k => laws_heldIntS_eq k _ m) ?_
  have hl := mkList_len (fun k : Int => k) m 1 N
  refine held_loop (fun k c i => laws_heldIntS_h2 k (mkList (fun k => k) m 1 N) c i) (fun k => k) m 1 N (fun k c => ?_) (fun n r hn hx H => ?_)
  · rw [laws_heldIntS_h2_eq, if_neg (by omega)]
  · refine ev_shift ?_
    simp only [laws_heldIntS_h2_eq, ev_ite_iff, rdT_get (e := .int .i64) hx, wrap_nat (show n < 9223372036854775807 by omega), wrap_of (x := m + 1 * (n : Int) + 1) (by omega) (by omega)]
    rw [if_pos (by omega), if_pos (by omega), if_pos (by omega), if_neg (by simp)]
    rw [show m + 1 * (n : Int) + 1 = m + 1 * ((n + 1 : Nat) : Int) by omega]
    exact H

/-! ### texts -/
/-! texts in their order -/
theorem bl_irrefl : ∀ x : List UInt8, Op.bytesLess x x = false
  | [] => rfl
  | a :: x => by simp [Op.bytesLess, bl_irrefl x]
theorem bl_trans : ∀ {x y z : List UInt8}, Op.bytesLess x y = true → Op.bytesLess y z = true → Op.bytesLess x z = true
  | x, y, [], _, h => by cases y <;> simp [Op.bytesLess] at h
  | x, [], c :: z, h, _ => by cases x <;> simp [Op.bytesLess] at h
  | [], b :: y, c :: z, _, _ => rfl
  | a :: x, b :: y, c :: z, h1, h2 => by
    simp only [Op.bytesLess, Bool.or_eq_true, Bool.and_eq_true, decide_eq_true_eq, beq_iff_eq] at h1 h2 ⊢
    rcases h1 with h1 | ⟨rfl, h1⟩
    · rcases h2 with h2 | ⟨rfl, h2⟩
      · exact .inl (UInt8.lt_trans h1 h2)
      · exact .inl h1
    · rcases h2 with h2 | ⟨rfl, h2⟩
      · exact .inl h2
      · exact .inr ⟨rfl, bl_trans h1 h2⟩
theorem cmp_facts : ∀ (x y : List UInt8), (Go.Lib.compareBytes x y < 0 ↔ Op.bytesLess x y = true) ∧ (Go.Lib.compareBytes x y = 0 ↔ x = y)
  | [], [] => by simp [Go.Lib.compareBytes, Op.bytesLess]
  | [], _ :: _ => by simp [Go.Lib.compareBytes, Op.bytesLess]
  | _ :: _, [] => by simp [Go.Lib.compareBytes, Op.bytesLess]
  | a :: x, b :: y => by
    obtain ⟨h1, h2⟩ := cmp_facts x y
    simp only [Go.Lib.compareBytes, Op.bytesLess]
    by_cases hab : a < b
    · have hne : a ≠ b := fun e => by subst e; exact absurd hab (UInt8.lt_irrefl _)
      simp [hab, hne]
    · by_cases hba : b < a
      · have hne : a ≠ b := fun e => by subst e; exact absurd hba (UInt8.lt_irrefl _)
        simp [hab, hba, hne]
      · have he : a = b := UInt8.le_antisymm (UInt8.not_lt.1 hba) (UInt8.not_lt.1 hab)
        subst he
        simp only [hab, if_false, h1, h2, decide_false, Bool.false_or, beq_self_eq_true, Bool.true_and, List.cons.injEq, true_and, and_self]
theorem cmp_neg (a b : ByteArray) : gvCompare a b < 0 ↔ lessS a b = true := by
  unfold gvCompare lessS
  rw [ByteArray.toList_eq, ByteArray.toList_eq]
  exact (cmp_facts _ _).1
theorem cmp_zero (a b : ByteArray) : gvCompare a b = 0 ↔ a = b := by
  unfold gvCompare
  rw [(cmp_facts _ _).2]
  exact ⟨fun h => Go.WideShapes.bytes_inj h, fun h => by rw [h]⟩
theorem lessS_trans {a b c : ByteArray} (h : lessS a b = true) (h' : lessS b c = true) : lessS a c = true := bl_trans h h'
theorem lessS_irrefl (a : ByteArray) : lessS a a = false := bl_irrefl _

/-! ### holderof -/
/-! HolderOf -/
theorem outs_ev {H : Nat → List Int → List HoldT → Int → Int → Option (List Int × Bool)} (hH : ∀ k out l ln i, H (k + 1) out l ln i = if i < ln then if 0 ≤ i then if i < (l.length : Int) then if out.length + (List.cons (rdT HoldK l i).1 []).length ≤ 17592186044416 then H k (out ++ List.cons (rdT HoldK l i).1 []) l ln (wrap64 (i + 1)) else none else none else none else some (out, true))
    (l : List HoldT) (hl : l.length ≤ 1048576) : Ev (fun k => H k [] l (l.length : Int) 0) (l.map (·.1), true) := by
  have key := drop_ind0 l (fun n rest => ∀ out : List Int, out.length = n → Ev (fun k => H k out l (l.length : Int) (n : Int)) (out ++ rest.map (·.1), true)) ?_ ?_
  · exact key [] rfl
  · intro out _
    exact ev_last fun k => by rw [hH, if_neg (by omega)]; simp
  · intro n x rest hn hx hd ih out ho
    have d1 : (n : Int) < (l.length : Int) := by omega
    have d2 : (0 : Int) ≤ (n : Int) := by omega
    refine ev_shift ?_
    simp only [hH, rdT_get (e := HoldK) hx, wrap_nat (show n < 9223372036854775807 by omega), ev_ite_iff, ev_none_iff]
    rw [if_pos d1, if_pos d2, if_pos d1, if_pos (by simp; omega)]
    have := ih (out ++ [x.1]) (by simp [ho])
    simpa using this
theorem rise_lt {l : List LockT} (g : Good l 0) : ∀ d i x y, l[i]? = some x → l[i + d + 1]? = some y → lessS x.1 y.1 = true
  | 0, i, x, y, hx, hy => g.rise (i + 1) x y (by omega) (by omega) (by simpa using hx) hy
  | d + 1, i, x, y, hx, hy => by
    have hlt : i + d + 1 < l.length := by have := (List.getElem?_eq_some_iff.1 hy).1; omega
    have h1 := rise_lt g d i x l[i + d + 1] hx (List.getElem?_eq_getElem hlt)
    exact lessS_trans h1 (g.rise (i + d + 1 + 1) l[i + d + 1] y (by omega) (by omega) (by rw [Nat.add_sub_cancel]; exact List.getElem?_eq_getElem hlt) hy)
theorem rise_uniq {l : List LockT} (g : Good l 0) {i j : Nat} {x y : LockT} (hx : l[i]? = some x) (hy : l[j]? = some y) (h : x.1 = y.1) : i = j := by
  rcases Nat.lt_trichotomy i j with hlt | e | hlt
  · have := rise_lt g (j - i - 1) i x y hx (by rw [show i + (j - i - 1) + 1 = j by omega]; exact hy)
    rw [h, lessS_irrefl] at this; cases this
  · exact e
  · have := rise_lt g (i - j - 1) j y x hy (by rw [show j + (i - j - 1) + 1 = i by omega]; exact hx)
    rw [h, lessS_irrefl] at this; cases this
theorem at_ev {l : List LockT} (g : Good l 0) (key : ByteArray) : ∃ r : Int × Bool, Ev (fun k => spec_l4At k l key) r ∧ ((r.2 = true ∧ ∃ (i : Nat) (x : LockT), r.1 = (i : Int) ∧ l[i]? = some x ∧ x.1 = key) ∨ (r.2 = false ∧ ∀ x ∈ l, x.1 ≠ key)) := by
  have hl := g.len
  have main := up_ind l.length (fun n => (∀ x ∈ l.take n, lessS x.1 key = true) → ∃ r : Int × Bool, Ev (fun k => spec_l4At_h2 k l key (n : Int)) r ∧ ((r.2 = true ∧ ∃ (i : Nat) (x : LockT), r.1 = (i : Int) ∧ l[i]? = some x ∧ x.1 = key) ∨ (r.2 = false ∧ ∀ x ∈ l, x.1 ≠ key))) ?_ ?_ 0 (by omega) (by simp)
  · obtain ⟨r, h1, h2⟩ := main
    exact ⟨r, ev_congr (fun k => spec_l4At_eq k l key) h1, h2⟩
  · intro hb
    refine ⟨((l.length : Int), false), ev_last fun k => by rw [spec_l4At_h2_eq, if_neg (by omega), if_neg (by omega)], .inr ⟨rfl, fun x hx e => ?_⟩⟩
    have := hb x (by rw [List.take_length]; exact hx)
    rw [e, lessS_irrefl] at this; cases this
  · intro n hn ih hb
    have hx : l[n]? = some l[n] := List.getElem?_eq_getElem hn
    generalize l[n] = x at hx
    have d1 : (n : Int) < (l.length : Int) := by omega
    have d2 : (0 : Int) ≤ (n : Int) := by omega
    cases hls : lessS x.1 key with
    | true =>
      obtain ⟨r, h1, h2⟩ := ih (fun y hy => by
        rw [take_snoc hx] at hy
        rcases List.mem_append.1 hy with hy | hy
        · exact hb y hy
        · rw [List.mem_singleton.1 hy]; exact hls)
      refine ⟨r, ev_shift ?_, h2⟩
      simp only [spec_l4At_h2_eq, rdT_get (e := LockK) hx, wrap_nat (show n < 9223372036854775807 by omega), ev_ite_iff, ev_none_iff, hls]
      rw [if_pos d1, if_pos d2, if_pos d1, if_pos trivial]
      exact h1
    | false =>
      refine ⟨((n : Int), decide (x.1 = key)), ev_last fun k => ?_, ?_⟩
      · rw [spec_l4At_h2_eq, rdT_get (e := LockK) hx, hls, if_pos d1, if_pos d2, if_pos d1, if_neg (by simp), if_pos d1, if_pos d2, if_pos d1]
      · by_cases hk : x.1 = key
        · exact .inl ⟨decide_eq_true hk, n, x, rfl, hx, hk⟩
        · refine .inr ⟨decide_eq_false hk, fun y hy e => ?_⟩
          obtain ⟨j, hj⟩ := List.mem_iff_getElem?.1 hy
          rcases Nat.lt_trichotomy j n with hlt | e2 | hlt
          · have := hb y (List.mem_iff_getElem?.2 ⟨j, by rw [List.getElem?_take, if_pos hlt]; exact hj⟩)
            rw [e, lessS_irrefl] at this; cases this
          · subst e2
            rw [hx] at hj; cases hj; exact hk e
          · have := rise_lt g (j - n - 1) n x y hx (by rw [show n + (j - n - 1) + 1 = j by omega]; exact hj)
            rw [e, hls] at this; cases this
theorem idx_ev (l : List LockT) (hl : l.length ≤ 1048576) (key : ByteArray) : Ev (fun k => slices_IndexFunc_v1 k l (key, ())) (idxFrom (fun x : LockT => decide (x.1 = key)) 0 l) := by
  have main := drop_ind0 l (fun n rest => Ev (fun k => slices_IndexFunc_v1_h2 k l (key, ()) (l.length : Int) (n : Int)) (idxFrom (fun x : LockT => decide (x.1 = key)) n rest)) ?_ ?_
  · exact ev_congr (fun k => slices_IndexFunc_v1_eq k l (key, ())) main
  · exact ev_last fun k => by rw [slices_IndexFunc_v1_h2_eq, if_neg (by omega)]; rfl
  · intro n o rest hn ho _ ih
    have d1 : (n : Int) < (l.length : Int) := by omega
    have d2 : (0 : Int) ≤ (n : Int) := by omega
    refine ev_shift ?_
    simp only [slices_IndexFunc_v1_h2_eq, impl_HolderOf_1_eq, rdT_get (e := LockK) ho, wrap_nat (show n < 9223372036854775807 by omega), Option.bind_some, ev_ite_iff, ev_none_iff, ev_some_iff, idxFrom]
    rw [if_pos d1, if_pos d2, if_pos d1]
    by_cases h1 : o.1 = key
    · simp [h1]
    · simpa [h1] using ih
theorem idx_spec (l : List LockT) (key : ByteArray) : ∀ (rest : List LockT) (n : Nat), l.drop n = rest → (idxFrom (fun x : LockT => decide (x.1 = key)) n rest = -1 ∧ ∀ x ∈ rest, x.1 ≠ key) ∨ ∃ (i : Nat) (x : LockT), idxFrom (fun x : LockT => decide (x.1 = key)) n rest = (i : Int) ∧ l[i]? = some x ∧ x.1 = key
  | [], n, _ => .inl ⟨rfl, by simp⟩
  | y :: rest, n, hd => by
    have hy : l[n]? = some y := by
      have := congrArg (fun z : List LockT => z[0]?) hd
      simpa using this
    by_cases h : y.1 = key
    · exact .inr ⟨n, y, by simp [idxFrom, h], hy, h⟩
    · rcases idx_spec l key rest (n + 1) (drop_next hd) with ⟨h1, h2⟩ | ⟨i, x, h1, h2, h3⟩
      · exact .inl ⟨by simpa [idxFrom, h] using h1, by simpa [h] using h2⟩
      · exact .inr ⟨i, x, by simpa [idxFrom, h] using h1, h2, h3⟩
theorem holder_ev (l : List LockT) (hl : l.length ≤ 1048576) (hB : ∀ x ∈ l, szBLock x) (key : ByteArray) (hk : key.size ≤ 1048576) : ∃ r, Ev (fun k => spec_HolderOf k l key) r ∧ Ev (fun k => impl_HolderOf k l key) r ∧ r.1.length ≤ 1048576 := by
  obtain ⟨b, b0, b1, b2⟩ := locks_ev l hl hB
  have ix := idx_ev l hl key
  cases b with
  | false =>
    refine ⟨([], false), ?_, ?_, by simp⟩
    · exact ev_congr (fun k => spec_HolderOf_eq k l key) (ev_bind b1 (ev_if_pos (by simp) (ev_some _)))
    · exact ev_congr (fun k => impl_HolderOf_eq k l key) (ev_bind ix (ev_bind b2 (ev_if_pos (by simp) (ev_some _))))
  | true =>
    have g := b0 rfl
    have s1 := l1Key_ev key (by omega)
    have s2 := isKey_ev key
    cases hkb : keyB key with
    | false =>
      rw [hkb] at s1 s2
      refine ⟨([], false), ?_, ?_, by simp⟩
      · exact ev_congr (fun k => spec_HolderOf_eq k l key) (ev_bind b1 (ev_if_neg (by simp) (ev_bind s1 (ev_if_pos (by simp) (ev_some _)))))
      · exact ev_congr (fun k => impl_HolderOf_eq k l key) (ev_bind ix (ev_bind b2 (ev_if_neg (by simp) (ev_bind s2 (ev_if_pos (by simp) (ev_some _))))))
    | true =>
      rw [hkb] at s1 s2
      obtain ⟨r, a1, a2⟩ := at_ev g key
      rcases a2 with ⟨hr, i, x, hi, hx, hxk⟩ | ⟨hr, hno⟩
      · obtain ⟨p1, p2, p3⟩ := hB x (List.mem_of_getElem? hx)
        have hlt := (List.getElem?_eq_some_iff.1 hx).1
        have hix : idxFrom (fun x : LockT => decide (x.1 = key)) 0 l = (i : Int) := by
          rcases idx_spec l key l 0 rfl with ⟨_, h2⟩ | ⟨j, y, h1, h2, h3⟩
          · exact absurd hxk (h2 x (List.mem_of_getElem? hx))
          · rw [h1, rise_uniq g h2 hx (h3.trans hxk.symm)]
        rw [hix] at ix
        refine ⟨(x.2.1.map (·.1), true), ?_, ?_, by simpa using p2⟩
        · refine ev_congr (fun k => spec_HolderOf_eq k l key) (ev_bind b1 (ev_if_neg (by simp) (ev_bind s1 (ev_if_neg (by simp) (ev_bind a1 (ev_if_pos hr ?_))))))
          rw [hi]
          refine ev_if_pos (by omega) (ev_if_pos (by omega) ?_)
          rw [rdT_get (e := LockK) hx]
          exact outs_ev (H := spec_HolderOf_h7) spec_HolderOf_h7_eq x.2.1 p2
        · refine ev_congr (fun k => impl_HolderOf_eq k l key) (ev_bind ix (ev_bind b2 (ev_if_neg (by simp) (ev_bind s2 (ev_if_neg (by simp) (ev_if_pos (by omega) (ev_if_pos (by omega) (ev_if_pos (by omega) ?_))))))))
          rw [rdT_get (e := LockK) hx]
          exact outs_ev (H := impl_HolderOf_h7) impl_HolderOf_h7_eq x.2.1 p2
      · have hix : idxFrom (fun x : LockT => decide (x.1 = key)) 0 l = -1 := by
          rcases idx_spec l key l 0 rfl with ⟨h1, _⟩ | ⟨j, y, h1, h2, h3⟩
          · exact h1
          · exact absurd h3 (hno y (List.mem_of_getElem? h2))
        rw [hix] at ix
        refine ⟨([], true), ?_, ?_, by simp⟩
        · exact ev_congr (fun k => spec_HolderOf_eq k l key) (ev_bind b1 (ev_if_neg (by simp) (ev_bind s1 (ev_if_neg (by simp) (ev_bind a1 (ev_if_neg (by simp [hr]) (ev_some _)))))))
        · exact ev_congr (fun k => impl_HolderOf_eq k l key) (ev_bind ix (ev_bind b2 (ev_if_neg (by simp) (ev_bind s2 (ev_if_neg (by simp) (ev_if_neg (by omega) (ev_some _)))))))
theorem law (a0 : List LockT) (a1 : ByteArray) (h0 : okT (.slice LockK) a0) (h1 : okT .str a1) : ∃ k, laws_FnExactHolderOf k a0 a1 = some true := by
  apply ev_fuel
  refine ev_congr (fun k => laws_FnExactHolderOf_eq k a0 a1) ?_
  by_cases hk : (1048576 : Int) < (a1.size : Int)
  · exact ev_if_pos hk (ev_some _)
  refine ev_if_neg hk ?_
  obtain ⟨v, hv, _, hB⟩ := szLockS_ev a0 (by have := h0.1; omega) (fun x hx => ⟨(h0.2 x hx).1, (h0.2 x hx).2.1.1, (h0.2 x hx).2.2.1⟩) 1048576 (by omega) (by omega)
  refine ev_bind hv ?_
  by_cases hneg : v < 0
  · exact ev_if_pos hneg (ev_some _)
  refine ev_if_neg hneg ?_
  obtain ⟨hl, hs⟩ := hB (by omega)
  obtain ⟨r, spec, impl, hlen⟩ := holder_ev a0 hl hs a1 (by omega)
  have to := toLockS_ev a0 hl hs
  have eqr := eqIntS_ev r.1 (by omega)
  have mk := markIntS_ev r.1 1 (by omega) (by omega)
  have hd := heldIntS_ev 1 r.1.length (by omega) (by omega)
  obtain ⟨m0, hm0, hm1⟩ := markLockS_ex a0 hl hs
  refine ev_bind to (ev_bind spec (ev_bind to (ev_bind impl (ev_bind eqr (ev_if_neg (by simp) (ev_if_neg (by simp) ?_))))))
  refine ev_bind to (ev_bind (eqLockS_ev a0 hl hs) (ev_if_neg (by simp) ?_))
  refine ev_bind hm0 (ev_if_neg (by omega) (ev_bind eqr (ev_if_neg (by simp) (ev_if_neg (by simp) ?_))))
  refine ev_bind mk (ev_bind hd (ev_if_neg (by omega) (ev_if_neg (by simp) ?_)))
  refine ev_bind to (ev_bind impl (ev_bind eqr (ev_if_neg (by simp) (ev_if_neg (by simp) ?_))))
  exact ev_bind hd (ev_if_neg (by omega) (ev_if_neg (by simp) (ev_some _)))

end Go.Proofs.YtjckjjpldplckaaDoor.Fms
