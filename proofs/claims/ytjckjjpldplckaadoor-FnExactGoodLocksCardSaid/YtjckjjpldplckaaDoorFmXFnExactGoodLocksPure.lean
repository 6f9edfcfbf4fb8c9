/- What the law's functions give: the pure part. -/
import Derived.Test.YtjckjjpldplckaaDoorFmAid
import Derived.Test.YtjckjjpldplckaaDoorFmOpn
import Derived.Test.YtjckjjpldplckaaDoorFmXFnExactGoodLocksEq
set_option autoImplicit true
set_option maxRecDepth 100000
set_option linter.unusedVariables false
set_option linter.unusedSimpArgs false
set_option linter.unnecessarySimpa false
set_option linter.unusedSectionVars false
open Go Go.Fm Go.RowKit
namespace Go.Proofs.YtjckjjpldplckaaDoor.Fms
/-! ### base -/
theorem l1In_ev (n lo hi : Int) : Ev (fun k => spec_l1In k n lo hi) (decide (lo ≤ n ∧ n ≤ hi)) := ev_congr (fun k => by rw [spec_l1In_eq]) (by by_cases h : lo ≤ n <;> simp [ev_some_iff, h])

/-! ### inn -/
theorem in_ev (n lo hi : Int) : Ev (fun k => impl_in k n lo hi) (decide (lo ≤ n ∧ n ≤ hi)) := ev_congr (fun k => by rw [impl_in_eq]) (by by_cases h : lo ≤ n <;> simp [ev_some_iff, h])

/-! ### keys -/
def keyByte (b : UInt8) : Bool := (decide (97 ≤ b.toNat) && decide (b.toNat ≤ 122)) || (decide (48 ≤ b.toNat) && decide (b.toNat ≤ 57))
def keyB (s : ByteArray) : Bool := decide (1 ≤ s.size ∧ s.size ≤ 8) && s.data.toList.all keyByte
def keyCut : List UInt8 := [97, 98, 99, 100, 101, 102, 103, 104, 105, 106, 107, 108, 109, 110, 111, 112, 113, 114, 115, 116, 117, 118, 119, 120, 121, 122, 48, 49, 50, 51, 52, 53, 54, 55, 56, 57]
theorem keyCut_has (b : UInt8) : keyCut.contains b = keyByte b := by
  have h : ∀ n : Fin 256, keyCut.contains (UInt8.ofNat n.val) = keyByte (UInt8.ofNat n.val) := by decide +kernel
  have := h ⟨b.toNat, b.toNat_lt⟩
  simpa using this
theorem drop_nil {α : Type} (p : α → Bool) (l : List α) : (l.dropWhile p).isEmpty = l.all p := by
  induction l with
  | nil => rfl
  | cons x l ih => cases h : p x <;> simp [List.dropWhile_cons, h, ih]
theorem all_drop {α : Type} (p : α → Bool) (l : List α) : (l.dropWhile p).all p = l.all p := by
  induction l with
  | nil => rfl
  | cons x l ih => cases h : p x <;> simp [List.dropWhile_cons, h, ih]
theorem trim_nil (l : List UInt8) : (Go.Lib.trimS l keyCut).isEmpty = l.all keyByte := by
  unfold Go.Lib.trimS Go.Lib.trimLeftS Go.Lib.trimRightS
  rw [drop_nil, List.all_reverse, all_drop, List.all_reverse]
  congr 1
  funext b
  exact keyCut_has b
theorem mk_nil (l : List UInt8) : decide ((⟨l.toArray⟩ : ByteArray) = ByteArray.mk (Array.mk [])) = l.isEmpty := by
  cases l with
  | nil => exact decide_eq_true rfl
  | cons x l => exact decide_eq_false (fun h => by have := congrArg (fun b : ByteArray => b.data.size) h; simp at this)
theorem isKey_ev (s : ByteArray) : Ev (fun k => impl_isKey k s) (keyB s) := by
  refine ev_congr (fun k => impl_isKey_eq k s) ?_
  have e : MapW.strings_Trim.f s ⟨#[97, 98, 99, 100, 101, 102, 103, 104, 105, 106, 107, 108, 109, 110, 111, 112, 113, 114, 115, 116, 117, 118, 119, 120, 121, 122, 48, 49, 50, 51, 52, 53, 54, 55, 56, 57]⟩ = if s.size ≤ 9223372036854775807 then some ⟨(Go.Lib.trimS s.data.toList keyCut).toArray⟩ else none := by
    unfold MapW.strings_Trim.f
    by_cases h : s.size ≤ 9223372036854775807
    · rw [if_pos ⟨h, by decide, by decide⟩, if_pos h]; rfl
    · rw [if_neg (fun hh => h hh.1), if_neg h]
  simp only [e]
  unfold keyB
  by_cases h1 : (1 : Int) ≤ (s.size : Int)
  · by_cases h2 : (s.size : Int) ≤ 8
    · have h3 : 1 ≤ s.size ∧ s.size ≤ 8 := by omega
      rw [if_pos h1, if_pos h2, if_pos (by omega)]
      simp only [Option.bind_some, mk_nil, trim_nil, h3, decide_true, and_self, Bool.true_and]
      exact ev_some _
    · have h3 : ¬ (1 ≤ s.size ∧ s.size ≤ 8) := by omega
      rw [if_pos h1, if_neg h2]
      simp only [h3, decide_false, Bool.false_and]
      exact ev_some _
  · have h3 : ¬ (1 ≤ s.size ∧ s.size ≤ 8) := by omega
    rw [if_neg h1]
    simp only [h3, decide_false, Bool.false_and]
    exact ev_some _
theorem l1Key_ev (s : ByteArray) (hs : s.size ≤ 140737488355328) : Ev (fun k => spec_l1Key k s) (keyB s) := by
  have hl := size_len s
  have key := drop_ind0 s.data.toList (fun n rest => Ev (fun k => spec_l1Key_h2 k s (n : Int)) (rest.all keyByte && decide (1 ≤ s.size ∧ s.size ≤ 8))) ?_ ?_
  · refine ev_congr (fun k => spec_l1Key_eq k s) ?_
    unfold keyB
    rw [Bool.and_comm]
    exact key
  · refine ev_shift ?_
    simp only [spec_l1Key_h2_eq, ev_ite_iff, ev_bind_iff (l1In_ev _ _ _), ev_some_iff]
    rw [← hl, if_neg (by omega)]
    simp only [List.all_nil, Bool.true_and]
    congr 1
    exact propext ⟨fun h => by omega, fun h => by omega⟩
  · intro n b rest hn hx hd ih
    refine ev_shift ?_
    simp only [spec_l1Key_h2_eq, bt_nat hx, wrap_nat (show n < 9223372036854775807 by omega), ev_ite_iff, ev_some_iff, ev_none_iff, List.all_cons]
    rw [if_pos (by omega), if_pos (by omega), if_pos (by omega)]
    cases hp : keyByte b with
    | true =>
      simp only [Bool.true_and]
      simp only [keyByte, Bool.or_eq_true, Bool.and_eq_true, decide_eq_true_eq] at hp
      split
      · split
        · exact ih
        · rw [if_pos (by omega), if_neg (by omega)]; exact ih
      · rw [if_pos (by omega), if_neg (by omega)]; exact ih
    | false =>
      simp only [keyByte, Bool.or_eq_false_iff, Bool.and_eq_false_iff, decide_eq_false_iff_not] at hp
      simp only [Bool.false_and]
      split
      · rw [if_neg (by omega)]
        split
        · rw [if_pos (by omega)]; trivial
        · trivial
      · split
        · rw [if_pos (by omega)]; trivial
        · trivial

/-! ### has -/
def hasB (l : List Int) (n : Int) : Bool := l.any fun x => decide (x = n)
theorem hasB_iff {l : List Int} {n : Int} : hasB l n = true ↔ n ∈ l := by simp [hasB]
theorem l1Has_ev (l : List Int) (n : Int) (hl : l.length ≤ 140737488355328) : Ev (fun k => spec_l1Has k l n) (hasB l n) := by
  have key := drop_ind0 l (fun j rest => Ev (fun k => spec_l1Has_h2 k n l (l.length : Int) (j : Int)) (hasB rest n)) ?_ ?_
  · exact ev_congr (fun k => spec_l1Has_eq k l n) key
  · exact ev_last fun k => by rw [spec_l1Has_h2_eq, if_neg (by omega)]; rfl
  · intro j x rest hj hx hd ih
    refine ev_shift ?_
    simp only [spec_l1Has_h2_eq, rdT_get (e := .int .i64) hx, wrap_nat (show j < 9223372036854775807 by omega), ev_ite_iff, ev_none_iff, ev_some_iff]
    rw [if_pos (by omega), if_pos (by omega), if_pos (by omega)]
    unfold hasB
    rw [List.any_cons]
    by_cases h : x = n
    · rw [if_pos h]; simp [h]
    · rw [if_neg h]; simpa [h, hasB] using ih

/-! ### lock -/
abbrev HoldT := Int × Int
abbrev LockT := ByteArray × List HoldT × List HoldT
abbrev HoldK : Kind := .struct (.pair (.int .i64) (.int .i64))
abbrev LockK : Kind := .struct (.pair .str (.pair (.slice HoldK) (.slice HoldK)))
def szokLock (x : LockT) : Prop := x.1.size ≤ 140737488351232 ∧ x.2.1.length ≤ 140737488351232 ∧ x.2.2.length ≤ 140737488351232
def szBLock (x : LockT) : Prop := x.1.size ≤ 1048576 ∧ x.2.1.length ≤ 1048576 ∧ x.2.2.length ≤ 1048576
theorem szHoldS_ev (l : List HoldT) (hl : l.length ≤ 140737488351232) (a : Int) (h0 : 0 ≤ a) (h1 : a ≤ 1048576) : ∃ v, Ev (fun k => laws_szHoldS k l a) v ∧ v ≤ a ∧ (0 ≤ v → l.length ≤ 1048576) := by
  have w : wrap64 (a - (l.length : Int)) = a - l.length := wrap_of (by omega) (by omega)
  by_cases h : a - (l.length : Int) < 0
  · exact ⟨-1, ev_congr (fun k => by rw [laws_szHoldS_eq, w, if_pos h]) (ev_some _), by omega, fun h => by omega⟩
  · exact ⟨_, ev_congr (fun k => by rw [laws_szHoldS_eq, w, if_neg h]) (ev_some _), by omega, fun _ => by omega⟩
theorem szLock_ev (x : LockT) (hx : szokLock x) (a : Int) (h0 : 0 ≤ a) (h1 : a ≤ 1048576) : ∃ v, Ev (fun k => laws_szLock k x a) v ∧ v ≤ a ∧ (0 ≤ v → szBLock x) := by
  obtain ⟨x1, x2, x3⟩ := hx
  have w : wrap64 (a - (x.1.size : Int)) = a - x.1.size := wrap_of (by omega) (by omega)
  by_cases h : a - (x.1.size : Int) < 0
  · exact ⟨-1, ev_congr (fun k => by rw [laws_szLock_eq, w, if_pos h]) (ev_some _), by omega, fun h => by omega⟩
  · obtain ⟨v, hv, hle, hB⟩ := szHoldS_ev x.2.1 x2 (a - x.1.size) (by omega) (by omega)
    by_cases hneg : v < 0
    · refine ⟨-1, ev_congr (fun k => by rw [laws_szLock_eq, w, if_neg h]) (ev_bind hv (ev_if_pos hneg (ev_some _))), by omega, fun h => by omega⟩
    · obtain ⟨u, hu, hle2, hB2⟩ := szHoldS_ev x.2.2 x3 v (by omega) (by omega)
      by_cases hneg2 : u < 0
      · exact ⟨-1, ev_congr (fun k => by rw [laws_szLock_eq, w, if_neg h]) (ev_bind hv (ev_if_neg hneg (ev_bind hu (ev_if_pos hneg2 (ev_some _))))), by omega, fun h => by omega⟩
      · exact ⟨u, ev_congr (fun k => by rw [laws_szLock_eq, w, if_neg h]) (ev_bind hv (ev_if_neg hneg (ev_bind hu (ev_if_neg hneg2 (ev_some _))))), by omega, fun _ => ⟨by omega, hB (by omega), hB2 (by omega)⟩⟩
theorem szLockS_ev (l : List LockT) (hl : l.length ≤ 140737488355328) (hk : ∀ x ∈ l, szokLock x) (a : Int) (h0 : 0 ≤ a) (h1 : a ≤ 1048576) : ∃ v, Ev (fun k => laws_szLockS k l a) v ∧ v ≤ a ∧ (0 ≤ v → l.length ≤ 1048576 ∧ ∀ x ∈ l, szBLock x) :=
  sz_top (fun k l a => laws_szLockS_eq k l a) (sz_row (e := LockK) (fun k l a i => laws_szLockS_h5_eq k l a i) (fun x hx a h0 h1 => szLock_ev x (hk x hx) a h0 h1) (by omega)) hl a h0 h1
theorem toHold_ev (x : HoldT) : Ev (fun k => laws_toHold k x) x := ev_congr (fun k => laws_toHold_eq k x) (ev_some x)
theorem eqHold_ev (x : HoldT) : Ev (fun k => laws_eqHold k x x) true := ev_congr (fun k => laws_eqHold_eq k x x) (by simp [ev_some_iff])
theorem toHoldS_ev (l) (hl : l.length ≤ 1048576) : Ev (fun k => laws_toHoldS k l) l := by
  refine ev_congr (fun k => laws_toHoldS_eq k l) ?_
  simp only [ev_ite_iff]
  rw [if_pos trivial, if_pos (by omega)]
  simpa using to_row (l := l) (cv := id) (z := _) (fun k l r i => laws_toHoldS_h3_eq k l r i) (fun x _ => toHold_ev x) (by omega)
theorem eqHoldS_ev (l) (hl : l.length ≤ 140737488355328) : Ev (fun k => laws_eqHoldS k l l) true := by
  refine ev_congr (fun k => laws_eqHoldS_eq k l l) ?_
  simp only [ev_ite_iff]
  rw [if_neg (by simp)]
  exact eq_row (l := l) (fun k a b i => laws_eqHoldS_h4_eq k a b i) (fun x _ => eqHold_ev x) (by omega)
theorem toLock_ev (x : LockT) (hx : szBLock x) : Ev (fun k => laws_toLock k x) x :=
  ev_congr (fun k => laws_toLock_eq k x) (ev_bind (toHoldS_ev x.2.1 hx.2.1) (ev_bind (toHoldS_ev x.2.2 hx.2.2) (ev_some x)))
theorem eqLock_ev (x : LockT) (hx : szBLock x) : Ev (fun k => laws_eqLock k x x) true :=
  ev_congr (fun k => laws_eqLock_eq k x x) (ev_if_neg (by simp) (ev_bind (eqHoldS_ev x.2.1 (by have := hx.2.1; omega)) (ev_if_neg (by simp) (ev_bind (eqHoldS_ev x.2.2 (by have := hx.2.2; omega)) (ev_if_neg (by simp) (ev_some true))))))
theorem toLockS_ev (l : List LockT) (hl : l.length ≤ 1048576) (hB : ∀ x ∈ l, szBLock x) : Ev (fun k => laws_toLockS k l) l := by
  refine ev_congr (fun k => laws_toLockS_eq k l) ?_
  simp only [ev_ite_iff]
  rw [if_pos trivial, if_pos (by omega)]
  simpa using to_row (e := LockK) (d := LockK) (l := l) (cv := id) (z := _) (fun k l r i => laws_toLockS_h3_eq k l r i) (fun x hx => toLock_ev x (hB x hx)) (by omega)
theorem eqLockS_ev (l : List LockT) (hl : l.length ≤ 1048576) (hB : ∀ x ∈ l, szBLock x) : Ev (fun k => laws_eqLockS k l l) true := by
  refine ev_congr (fun k => laws_eqLockS_eq k l l) ?_
  simp only [ev_ite_iff]
  rw [if_neg (by simp)]
  exact eq_row (e := LockK) (l := l) (fun k a b i => laws_eqLockS_h4_eq k a b i) (fun x hx => eqLock_ev x (hB x hx)) (by omega)

/-! ### goodlocks -/
/-! the two maps of who waits: a list here, a map there -/
theorem mgetT_put : ∀ (m : List (Int × Bool)) (n x : Int), mgetT (.int .i64) .bool (mputT (.int .i64) .bool m n true) x = (decide (x = n) || mgetT (.int .i64) .bool m x)
  | [], n, x => by
    by_cases h : x = n <;> simp [mgetT, mputT, mfind, eqT, h, zeroT]
  | p :: m, n, x => by
    have ih := mgetT_put m n x
    simp only [mgetT, mputT, mfind, eqT] at ih ⊢
    by_cases h1 : n = p.1 <;> by_cases h2 : x = p.1 <;> by_cases h3 : x = n <;> simp_all [mfind, eqT]
def Rel2 (ws : List Int) (m : List (Int × Bool)) : Prop := ∀ n, mgetT (.int .i64) .bool m n = hasB ws n
theorem rel_put {ws : List Int} {m : List (Int × Bool)} (h : Rel2 ws m) (n : Int) : Rel2 (ws ++ [n]) (mputT (.int .i64) .bool m n true) := by
  intro x
  rw [mgetT_put, h x]
  simp only [hasB, List.any_append, List.any_cons, List.any_nil, Bool.or_false]
  rw [Bool.or_comm]
  congr 1
  exact decide_eq_decide.2 ⟨fun h => h.symm, fun h => h.symm⟩
theorem both_shift {α : Type} {f g : Nat → Option α} {b : α} (h : Ev (fun k => f (k + 1)) b ∧ Ev (fun k => g (k + 1)) b) : Ev f b ∧ Ev g b := ⟨ev_shift h.1, ev_shift h.2⟩
def txnB (n : Int) : Bool := decide (1 ≤ n ∧ n ≤ 1000)
theorem txn_ev (n : Int) : Ev (fun k => spec_l4Txn k n) (txnB n) := ev_congr (fun k => spec_l4Txn_eq k n) ((ev_bind_iff (l1In_ev _ _ _)).2 (ev_some _))
theorem isTxn_ev (n : Int) : Ev (fun k => impl_isTxn k n) (txnB n) := ev_congr (fun k => impl_isTxn_eq k n) ((ev_bind_iff (in_ev _ _ _)).2 (ev_some _))
def modeB (n : Int) : Bool := decide (1 ≤ n ∧ n ≤ 2)
theorem isMode_ev (n : Int) : Ev (fun k => impl_isMode k n) (modeB n) := by
  refine ev_congr (fun k => impl_isMode_eq k n) ?_
  simp only [ev_ite_iff, ev_some_iff, modeB]
  by_cases h : n = 1
  · rw [if_pos h]; simp [h]
  · rw [if_neg h]; congr 1; exact propext ⟨fun h => by omega, fun h' => by omega⟩
def holdB (h : HoldT) : Bool := txnB h.1 && modeB h.2
theorem l4Hold_ev (h : HoldT) : Ev (fun k => spec_l4Hold k h) (holdB h) := by
  refine ev_congr (fun k => spec_l4Hold_eq k h) ?_
  simp only [ev_bind_iff (txn_ev _), ev_bind_iff (l1In_ev _ _ _), ev_ite_iff, ev_some_iff, holdB, modeB]
  cases txnB h.1 <;> simp
/-! a look through a row -/
def clashB (h o : HoldT) : Bool := !decide (o.1 = h.1) && (decide (h.2 = 2) || decide (o.2 = 2))
theorem l4Can_ev (x : LockT) (h : HoldT) (hl : x.2.1.length ≤ 1048576) : Ev (fun k => spec_l4Can k x h) (!x.2.1.any (clashB h)) := by
  refine ev_congr (fun k => spec_l4Can_eq k x h) ?_
  refine drop_ind0 x.2.1 (fun n rest => Ev (fun k => spec_l4Can_h2 k h x.2.1 (x.2.1.length : Int) (n : Int)) (!rest.any (clashB h))) ?_ ?_
  · exact ev_last fun k => by rw [spec_l4Can_h2_eq, if_neg (by omega)]; rfl
  · intro n o rest hn ho _ ih
    refine ev_shift ?_
    simp only [spec_l4Can_h2_eq, rdT_get (e := HoldK) ho, wrap_nat (show n < 9223372036854775807 by omega), ev_ite_iff, ev_none_iff, ev_some_iff, List.any_cons]
    rw [if_pos (by omega), if_pos (by omega), if_pos (by omega)]
    unfold clashB at ih ⊢
    by_cases h1 : o.1 = h.1 <;> by_cases h2 : h.2 = 2 <;> by_cases h3 : o.2 = 2 <;> simpa [h1, h2, h3] using ih
theorem l4Elder_ev (x : LockT) (t : Int) (hl : x.2.1.length ≤ 1048576) : Ev (fun k => spec_l4Elder k x t) (!x.2.1.any fun o => decide (o.1 < t)) := by
  refine ev_congr (fun k => spec_l4Elder_eq k x t) ?_
  refine drop_ind0 x.2.1 (fun n rest => Ev (fun k => spec_l4Elder_h2 k t x.2.1 (x.2.1.length : Int) (n : Int)) (!rest.any fun o => decide (o.1 < t))) ?_ ?_
  · exact ev_last fun k => by rw [spec_l4Elder_h2_eq, if_neg (by omega)]; rfl
  · intro n o rest hn ho _ ih
    refine ev_shift ?_
    simp only [spec_l4Elder_h2_eq, rdT_get (e := HoldK) ho, wrap_nat (show n < 9223372036854775807 by omega), ev_ite_iff, ev_none_iff, ev_some_iff, List.any_cons]
    rw [if_pos (by omega), if_pos (by omega), if_pos (by omega)]
    by_cases h1 : o.1 < t
    · have h3 : ¬ o.1 = t := by omega
      simp [h1, h3]
    · have h2 : decide (o.1 < t) = false := by simp [h1]
      rw [if_neg h1]
      simp only [h2, Bool.false_or, ite_self]
      exact ih
theorem idx_nonneg {α : Type} (p : α → Bool) : ∀ (l : List α) (n : Nat), decide (0 ≤ idxFrom p n l) = l.any p
  | [], n => rfl
  | x :: l, n => by
    rw [List.any_cons, ← idx_nonneg p l (n + 1), idxFrom]
    by_cases h : p x = true <;> simp [h]
theorem has1_ev (l : List HoldT) (hl : l.length ≤ 1048576) (t : Int) : Ev (fun k => slices_ContainsFunc k l (t, ())) (l.any fun o => decide (o.1 < t)) := by
  have key := drop_ind0 l (fun n rest => Ev (fun k => slices_IndexFunc_h2 k l (t, ()) (l.length : Int) (n : Int)) (idxFrom (fun o : HoldT => decide (o.1 < t)) n rest)) ?_ ?_
  · refine ev_congr (fun k => slices_ContainsFunc_eq k l _) ?_
    simp only [ev_bind_iff (ev_congr (fun k => slices_IndexFunc_eq k l (t, ())) key), ev_some_iff, idx_nonneg]
  · exact ev_last fun k => by rw [slices_IndexFunc_h2_eq, if_neg (by omega)]; rfl
  · intro n o rest hn ho _ ih
    refine ev_shift ?_
    simp only [slices_IndexFunc_h2_eq, impl_Lock_isElder_1_eq, rdT_get (e := HoldK) ho, wrap_nat (show n < 9223372036854775807 by omega), Option.bind_some, ev_ite_iff, ev_none_iff, ev_some_iff, idxFrom]
    rw [if_pos (by omega), if_pos (by omega), if_pos (by omega)]
    by_cases h1 : o.1 < t <;> simpa [h1] using ih
theorem has2_ev (l : List HoldT) (hl : l.length ≤ 1048576) (t : Int) : Ev (fun k => slices_ContainsFunc_i1 k l (t, ())) (l.any fun o => decide (o.1 ≤ t)) := by
  have key := drop_ind0 l (fun n rest => Ev (fun k => slices_IndexFunc_i1_h2 k l (t, ()) (l.length : Int) (n : Int)) (idxFrom (fun o : HoldT => decide (o.1 ≤ t)) n rest)) ?_ ?_
  · refine ev_congr (fun k => slices_ContainsFunc_i1_eq k l _) ?_
    simp only [ev_bind_iff (ev_congr (fun k => slices_IndexFunc_i1_eq k l (t, ())) key), ev_some_iff, idx_nonneg]
  · exact ev_last fun k => by rw [slices_IndexFunc_i1_h2_eq, if_neg (by omega)]; rfl
  · intro n o rest hn ho _ ih
    refine ev_shift ?_
    simp only [slices_IndexFunc_i1_h2_eq, impl_Lock_isElder_2_eq, rdT_get (e := HoldK) ho, wrap_nat (show n < 9223372036854775807 by omega), Option.bind_some, ev_ite_iff, ev_none_iff, ev_some_iff, idxFrom]
    rw [if_pos (by omega), if_pos (by omega), if_pos (by omega)]
    by_cases h1 : o.1 ≤ t <;> simpa [h1] using ih
theorem has3_ev (l : List HoldT) (hl : l.length ≤ 1048576) (h : HoldT) : Ev (fun k => slices_ContainsFunc_i2 k l (h, ())) (l.any (clashB h)) := by
  have key := drop_ind0 l (fun n rest => Ev (fun k => slices_IndexFunc_i2_h2 k l (h, ()) (l.length : Int) (n : Int)) (idxFrom (clashB h) n rest)) ?_ ?_
  · refine ev_congr (fun k => slices_ContainsFunc_i2_eq k l _) ?_
    simp only [ev_bind_iff (ev_congr (fun k => slices_IndexFunc_i2_eq k l (h, ())) key), ev_some_iff, idx_nonneg]
  · exact ev_last fun k => by rw [slices_IndexFunc_i2_h2_eq, if_neg (by omega)]; rfl
  · intro n o rest hn ho _ ih
    have hc : Ev (fun k => impl_Lock_may_1 k o h) (clashB h o) := by
      refine ev_congr (fun k => impl_Lock_may_1_eq k o h) ?_
      simp only [ev_ite_iff, ev_some_iff, clashB]
      by_cases h1 : o.1 = h.1 <;> by_cases h2 : h.2 = 2 <;> simp [h1, h2]
    refine ev_shift ?_
    simp only [slices_IndexFunc_i2_h2_eq, rdT_get (e := HoldK) ho, wrap_nat (show n < 9223372036854775807 by omega), ev_bind_iff hc, ev_ite_iff, ev_none_iff, ev_some_iff, idxFrom]
    rw [if_pos (by omega), if_pos (by omega), if_pos (by omega)]
    cases h1 : clashB h o <;> simpa [h1] using ih
theorem isElder_ev (x : LockT) (t : Int) (w : List HoldT) (h1 : x.2.1.length ≤ 1048576) (h2 : w.length ≤ 1048576) : Ev (fun k => impl_Lock_isElder k x t w) (!(x.2.1.any fun o => decide (o.1 < t)) && !(w.any fun o => decide (o.1 ≤ t))) := by
  refine ev_congr (fun k => impl_Lock_isElder_eq k x t w) ?_
  simp only [ev_bind_iff (has1_ev x.2.1 h1 t), ev_bind_iff (has2_ev w h2 t), ev_ite_iff, ev_some_iff]
  cases (x.2.1.any fun o => decide (o.1 < t)) <;> simp
theorem may_ev (x : LockT) (h : HoldT) (h1 : x.2.1.length ≤ 1048576) : Ev (fun k => impl_Lock_may k x h) (!x.2.1.any (clashB h)) :=
  ev_congr (fun k => impl_Lock_may_eq k x h) ((ev_bind_iff (has3_ev x.2.1 h1 h)).2 (ev_some _))

/-- those that wait -/
theorem waits_ev (l : List LockT) (hl : l.length ≤ 1048576) (x : LockT) (n : Nat) (hn : n < l.length) (h1 : x.2.1.length ≤ 1048576) (h8 : x.2.2.length ≤ 8)
    (hnext : ∀ ws m, Rel2 ws m → ws.length ≤ 8 * (n + 1) → ∃ b, Ev (fun k => spec_GoodLocks_h3 k l ws l (l.length : Int) ((n + 1 : Nat) : Int)) b ∧ Ev (fun k => impl_areLocks_h3 k l m l (l.length : Int) ((n + 1 : Nat) : Int)) b) :
    ∀ ws m, Rel2 ws m → ws.length ≤ 8 * n → ∃ b, Ev (fun k => spec_GoodLocks_h14 k l ws x l (l.length : Int) (n : Int) x.2.2 (x.2.2.length : Int) 0) b ∧ Ev (fun k => impl_areLocks_h14 k l m x l (l.length : Int) (n : Int) x.2.2 (x.2.2.length : Int) 0) b := by
  have key := drop_ind0 x.2.2 (fun j rs => ∀ ws m, Rel2 ws m → ws.length ≤ 8 * n + j → (∀ p, 0 < j → x.2.2[j - 1]? = some p → ∀ o ∈ x.2.2.take j, p.1 ≤ o.1) → ∃ b, Ev (fun k => spec_GoodLocks_h14 k l ws x l (l.length : Int) (n : Int) x.2.2 (x.2.2.length : Int) (j : Int)) b ∧ Ev (fun k => impl_areLocks_h14 k l m x l (l.length : Int) (n : Int) x.2.2 (x.2.2.length : Int) (j : Int)) b) ?_ ?_
  · intro ws m hr hw
    exact key ws m hr (by omega) (fun p h => absurd h (by omega))
  · intro ws m hr hw _
    obtain ⟨b, b1, b2⟩ := hnext ws m hr (by omega)
    refine ⟨b, ev_shift ?_, ev_shift ?_⟩
    · simp only [spec_GoodLocks_h14_eq, wrap_nat (show n < 9223372036854775807 by omega), ev_ite_iff]
      rw [if_neg (by omega)]
      exact b1
    · simp only [impl_areLocks_h14_eq, wrap_nat (show n < 9223372036854775807 by omega), ev_ite_iff]
      rw [if_neg (by omega)]
      exact b2
  · intro j w rs hj hw _ ih ws m hr hlen hdec
    have e5 : ((x.2.2.take j).any fun o => decide (o.1 ≤ w.1)) = (decide (0 < j) && decide ((rdT HoldK x.2.2 ((j : Int) - 1)).1 ≤ w.1)) := by
      cases j with
      | zero => rfl
      | succ i =>
        obtain ⟨p, hp⟩ : ∃ p, x.2.2[i]? = some p := ⟨_, List.getElem?_eq_getElem (by omega)⟩
        have e : ((i + 1 : Nat) : Int) - 1 = (i : Int) := by omega
        rw [e, rdT_get (e := HoldK) hp]
        have hd := hdec p (by omega) hp
        have hmem : p ∈ x.2.2.take (i + 1) := by rw [take_snoc hp]; simp
        rw [Bool.eq_iff_iff]
        simp only [List.any_eq_true, decide_eq_true_eq, Bool.and_eq_true]
        constructor
        · rintro ⟨o, ho, h⟩
          exact ⟨by omega, Int.le_trans (hd o ho) h⟩
        · rintro ⟨_, h⟩
          exact ⟨p, hmem, h⟩
    have hwl : ws.length ≤ 140737488355328 := by omega
    have htl : (x.2.2.take j).length ≤ 1048576 := by rw [List.length_take]; omega
    have hsl : (List.drop (Int.toNat 0) (List.take (Int.toNat (j : Int)) x.2.2)) = x.2.2.take j := by simp
    have hap : (ws.length + (List.length (List.cons w.1 [])) ≤ 17592186044416) := by simp only [List.length_cons, List.length_nil]; omega
    by_cases hok : holdB w = true ∧ hasB ws w.1 = false ∧ ((j : Int) = 0 → x.2.1.any (clashB w) = true) ∧ (x.2.1.any fun o => decide (o.1 < w.1)) = false ∧ ((x.2.2.take j).any fun o => decide (o.1 ≤ w.1)) = false
    · obtain ⟨k1, k2, k3, k4, k5⟩ := hok
      have k6 : txnB w.1 = true ∧ modeB w.2 = true := by simpa [holdB] using k1
      obtain ⟨b, b1, b2⟩ := ih (ws ++ [w.1]) _ (rel_put hr w.1) (by simp only [List.length_append, List.length_cons, List.length_nil]; omega) (fun p _ hp o ho => by
        have : p = w := by
          rw [show j + 1 - 1 = j from rfl, hw] at hp
          exact (Option.some.inj hp).symm
        subst this
        rw [take_snoc hw] at ho
        rcases List.mem_append.1 ho with ho | ho
        · have := List.any_eq_false.1 k5 o ho
          simp only [decide_eq_true_eq] at this
          omega
        · have := List.mem_singleton.1 ho; subst this; omega)
      have k7 := k5
      rw [e5] at k7
      refine ⟨b, ev_shift ?_, ev_shift ?_⟩
      · simp only [spec_GoodLocks_h14_eq, rdT_get (e := HoldK) hw, wrap_nat (show j < 9223372036854775807 by omega), wrap_pred (show j < 9223372036854775807 by omega), ev_bind_iff (l4Hold_ev w), ev_bind_iff (l1Has_ev ws w.1 hwl), ev_bind_iff (l4Can_ev x w h1), ev_bind_iff (l4Elder_ev x w.1 h1), ev_ite_iff, ev_some_iff, ev_none_iff, k1, k2, k4, if_pos hap]
        rw [if_pos (by omega), if_pos (by omega), if_pos (by omega)]
        by_cases hj0 : (j : Int) = 0
        · have : ¬ (0 : Int) < (j : Int) := by omega
          simp only [if_pos hj0, k3 hj0, if_neg this]
          simpa using b1
        · have c1 : (0 : Int) < (j : Int) := by omega
          have c2 : (0 : Int) ≤ (j : Int) - 1 := by omega
          have c3 : (j : Int) - 1 < (x.2.2.length : Int) := by omega
          have c4 : ¬ (rdT HoldK x.2.2 ((j : Int) - 1)).1 ≤ w.1 := by simpa [show 0 < j by omega] using k7
          simp only [if_neg hj0, if_pos c1, if_pos c2, if_pos c3, if_neg c4]
          simpa using b1
      · simp only [impl_areLocks_h14_eq, rdT_get (e := HoldK) hw, wrap_nat (show j < 9223372036854775807 by omega), hsl, ev_bind_iff (isTxn_ev _), ev_bind_iff (isMode_ev _), ev_bind_iff (isElder_ev x w.1 (x.2.2.take j) h1 htl), ev_bind_iff (may_ev x w h1), hr w.1, ev_ite_iff, ev_some_iff, ev_none_iff, k6.1, k6.2, k2, k4, k5]
        rw [if_pos (by omega), if_pos (by omega), if_pos (by omega)]
        by_cases hj0 : (j : Int) = 0
        · have c2 : (0 : Int) ≤ (j : Int) := by omega
          have c3 : (j : Int) ≤ (x.2.2.length : Int) := by omega
          simp only [if_pos hj0, k3 hj0, if_pos c2, if_pos c3]
          simpa using b2
        · have c2 : (0 : Int) ≤ (j : Int) := by omega
          have c3 : (j : Int) ≤ (x.2.2.length : Int) := by omega
          simp only [if_neg hj0, if_pos c2, if_pos c3]
          simpa using b2
    · have k5 : j = 0 → ((x.2.2.take j).any fun o => decide (o.1 ≤ w.1)) = false := fun h => by subst h; rfl
      refine ⟨false, ev_shift ?_, ev_shift ?_⟩
      · simp only [spec_GoodLocks_h14_eq, rdT_get (e := HoldK) hw, wrap_nat (show j < 9223372036854775807 by omega), wrap_pred (show j < 9223372036854775807 by omega), ev_bind_iff (l4Hold_ev w), ev_bind_iff (l1Has_ev ws w.1 hwl), ev_bind_iff (l4Can_ev x w h1), ev_bind_iff (l4Elder_ev x w.1 h1), ev_ite_iff, ev_some_iff, ev_none_iff, if_pos hap]
        rw [if_pos (by omega), if_pos (by omega), if_pos (by omega)]
        cases q1 : holdB w with
        | false => simp
        | true =>
        cases q2 : hasB ws w.1 with
        | true => simp
        | false =>
        by_cases hj0 : (j : Int) = 0
        · cases q3 : x.2.1.any (clashB w) with
          | false => simp [hj0]
          | true =>
          cases q4 : (x.2.1.any fun o => decide (o.1 < w.1)) with
          | true => simp [hj0]
          | false => exact absurd ⟨q1, q2, fun _ => q3, q4, k5 (by omega)⟩ hok
        · cases q4 : (x.2.1.any fun o => decide (o.1 < w.1)) with
          | true => simp [hj0]
          | false =>
          cases q5 : ((x.2.2.take j).any fun o => decide (o.1 ≤ w.1)) with
          | false => exact absurd ⟨q1, q2, fun h => absurd h hj0, q4, q5⟩ hok
          | true =>
            rw [e5] at q5
            have c1 : (0 : Int) < (j : Int) := by omega
            have c2 : (0 : Int) ≤ (j : Int) - 1 := by omega
            have c3 : (j : Int) - 1 < (x.2.2.length : Int) := by omega
            have c4 : (rdT HoldK x.2.2 ((j : Int) - 1)).1 ≤ w.1 := by simpa [show 0 < j by omega] using q5
            simp only [if_neg hj0, if_pos c1, if_pos c2, if_pos c3, if_pos c4]
            simp
      · simp only [impl_areLocks_h14_eq, rdT_get (e := HoldK) hw, wrap_nat (show j < 9223372036854775807 by omega), hsl, ev_bind_iff (isTxn_ev _), ev_bind_iff (isMode_ev _), ev_bind_iff (isElder_ev x w.1 (x.2.2.take j) h1 htl), ev_bind_iff (may_ev x w h1), hr w.1, ev_ite_iff, ev_some_iff, ev_none_iff]
        have c2 : (0 : Int) ≤ (j : Int) := by omega
        have c3 : (j : Int) ≤ (x.2.2.length : Int) := by omega
        rw [if_pos (by omega), if_pos (by omega), if_pos (by omega)]
        cases p1 : txnB w.1 with
        | false => simp
        | true =>
        cases p2 : modeB w.2 with
        | false => simp
        | true =>
        have q1 : holdB w = true := by simp [holdB, p1, p2]
        cases q2 : hasB ws w.1 with
        | true => simp
        | false =>
        simp only [if_pos c2, if_pos c3]
        cases q4 : (x.2.1.any fun o => decide (o.1 < w.1)) with
        | true => simp
        | false =>
        cases q5 : ((x.2.2.take j).any fun o => decide (o.1 ≤ w.1)) with
        | true => simp
        | false =>
        by_cases hj0 : (j : Int) = 0
        · cases q3 : x.2.1.any (clashB w) with
          | false => simp [hj0]
          | true => exact absurd ⟨q1, q2, fun _ => q3, q4, q5⟩ hok
        · exact absurd ⟨q1, q2, fun h => absurd h hj0, q4, q5⟩ hok
/-- those that hold -/
theorem holds_ev (l : List LockT) (hl : l.length ≤ 1048576) (x : LockT) (n : Nat) (hn : n < l.length) (h1 : x.2.1.length ≤ 1048576) (ws : List Int) (m : List (Int × Bool))
    (hnext : ∃ b, Ev (fun k => spec_GoodLocks_h14 k l ws x l (l.length : Int) (n : Int) x.2.2 (x.2.2.length : Int) 0) b ∧ Ev (fun k => impl_areLocks_h14 k l m x l (l.length : Int) (n : Int) x.2.2 (x.2.2.length : Int) 0) b) :
    ∃ b, Ev (fun k => spec_GoodLocks_h8 k l ws x l (l.length : Int) (n : Int) x.2.1 (x.2.1.length : Int) 0) b ∧ Ev (fun k => impl_areLocks_h8 k l m x l (l.length : Int) (n : Int) x.2.1 (x.2.1.length : Int) 0) b := by
  refine drop_ind0 x.2.1 (fun j rs => ∃ b, Ev (fun k => spec_GoodLocks_h8 k l ws x l (l.length : Int) (n : Int) x.2.1 (x.2.1.length : Int) (j : Int)) b ∧ Ev (fun k => impl_areLocks_h8 k l m x l (l.length : Int) (n : Int) x.2.1 (x.2.1.length : Int) (j : Int)) b) ?_ ?_
  · obtain ⟨b, b1, b2⟩ := hnext
    refine ⟨b, ev_shift ?_, ev_shift ?_⟩
    · simp only [spec_GoodLocks_h8_eq, ev_ite_iff]
      rw [if_neg (by omega)]
      exact b1
    · simp only [impl_areLocks_h8_eq, ev_ite_iff]
      rw [if_neg (by omega)]
      exact b2
  · intro j w rs hj hw _ ih
    by_cases hok : txnB w.1 = true ∧ modeB w.2 = true ∧ ((0 : Int) < (j : Int) → ¬ w.1 ≤ (rdT HoldK x.2.1 ((j : Int) - 1)).1) ∧ (w.2 = 2 → ¬ (1 : Int) < (x.2.1.length : Int))
    · obtain ⟨k1, k2, k3, k4⟩ := hok
      have k0 : holdB w = true := by simp [holdB, k1, k2]
      obtain ⟨b, b1, b2⟩ := ih
      refine ⟨b, ev_shift ?_, ev_shift ?_⟩
      · simp only [spec_GoodLocks_h8_eq, rdT_get (e := HoldK) hw, wrap_nat (show j < 9223372036854775807 by omega), wrap_pred (show j < 9223372036854775807 by omega), ev_bind_iff (l4Hold_ev w), ev_ite_iff, ev_some_iff, ev_none_iff, k0]
        rw [if_pos (by omega), if_pos (by omega), if_pos (by omega)]
        repeat' split
        all_goals first | exact b1 | omega | simp_all
      · simp only [impl_areLocks_h8_eq, rdT_get (e := HoldK) hw, wrap_nat (show j < 9223372036854775807 by omega), wrap_pred (show j < 9223372036854775807 by omega), ev_bind_iff (isTxn_ev _), ev_bind_iff (isMode_ev _), ev_ite_iff, ev_some_iff, ev_none_iff, k1, k2]
        rw [if_pos (by omega), if_pos (by omega), if_pos (by omega)]
        repeat' split
        all_goals first | exact b2 | omega | simp_all
    · refine ⟨false, ev_shift ?_, ev_shift ?_⟩
      · simp only [spec_GoodLocks_h8_eq, rdT_get (e := HoldK) hw, wrap_nat (show j < 9223372036854775807 by omega), wrap_pred (show j < 9223372036854775807 by omega), ev_bind_iff (l4Hold_ev w), ev_ite_iff, ev_some_iff, ev_none_iff]
        rw [if_pos (by omega), if_pos (by omega), if_pos (by omega)]
        clear ih hnext
        cases p1 : txnB w.1 with
        | false => have q0 : holdB w = false := by simp [holdB, p1]
                   simp [q0]
        | true =>
        cases p2 : modeB w.2 with
        | false => have q0 : holdB w = false := by simp [holdB, p2]
                   simp [q0]
        | true =>
        have q0 : holdB w = true := by simp [holdB, p1, p2]
        simp only [q0]
        by_cases c0 : (0 : Int) < (j : Int)
        · have d1 : (0 : Int) ≤ (j : Int) - 1 := by omega
          have d2 : (j : Int) - 1 < (x.2.1.length : Int) := by omega
          by_cases c1 : w.1 ≤ (rdT HoldK x.2.1 ((j : Int) - 1)).1
          · simp only [if_pos c0, if_pos d1, if_pos d2, if_pos c1]; simp
          · by_cases c2 : w.2 = 2
            · by_cases c3 : (1 : Int) < (x.2.1.length : Int)
              · simp only [if_pos c0, if_pos d1, if_pos d2, if_neg c1, if_pos c2, if_pos c3]; simp
              · exact absurd ⟨p1, p2, fun _ => c1, fun _ => c3⟩ hok
            · exact absurd ⟨p1, p2, fun _ => c1, fun h => absurd h c2⟩ hok
        · by_cases c2 : w.2 = 2
          · by_cases c3 : (1 : Int) < (x.2.1.length : Int)
            · simp only [if_neg c0, if_pos c2, if_pos c3]; simp
            · exact absurd ⟨p1, p2, fun h => absurd h c0, fun _ => c3⟩ hok
          · exact absurd ⟨p1, p2, fun h => absurd h c0, fun h => absurd h c2⟩ hok
      · simp only [impl_areLocks_h8_eq, rdT_get (e := HoldK) hw, wrap_nat (show j < 9223372036854775807 by omega), wrap_pred (show j < 9223372036854775807 by omega), ev_bind_iff (isTxn_ev _), ev_bind_iff (isMode_ev _), ev_ite_iff, ev_some_iff, ev_none_iff]
        rw [if_pos (by omega), if_pos (by omega), if_pos (by omega)]
        clear ih hnext
        cases p1 : txnB w.1 with
        | false => simp
        | true =>
        cases p2 : modeB w.2 with
        | false => simp
        | true =>
        by_cases c0 : (0 : Int) < (j : Int)
        · have d1 : (0 : Int) ≤ (j : Int) - 1 := by omega
          have d2 : (j : Int) - 1 < (x.2.1.length : Int) := by omega
          by_cases c1 : w.1 ≤ (rdT HoldK x.2.1 ((j : Int) - 1)).1
          · simp only [if_pos c0, if_pos d1, if_pos d2, if_pos c1]; simp
          · by_cases c2 : w.2 = 2
            · by_cases c3 : (1 : Int) < (x.2.1.length : Int)
              · simp only [if_pos c0, if_pos d1, if_pos d2, if_neg c1, if_pos c2, if_pos c3]; simp
              · exact absurd ⟨p1, p2, fun _ => c1, fun _ => c3⟩ hok
            · exact absurd ⟨p1, p2, fun _ => c1, fun h => absurd h c2⟩ hok
        · by_cases c2 : w.2 = 2
          · by_cases c3 : (1 : Int) < (x.2.1.length : Int)
            · simp only [if_neg c0, if_pos c2, if_pos c3]; simp
            · exact absurd ⟨p1, p2, fun h => absurd h c0, fun _ => c3⟩ hok
          · exact absurd ⟨p1, p2, fun h => absurd h c0, fun h => absurd h c2⟩ hok
theorem locks_ev (l : List LockT) (hl : l.length ≤ 1048576) (hB : ∀ x ∈ l, szBLock x) : ∃ b, Ev (fun k => spec_GoodLocks k l) b ∧ Ev (fun k => impl_GoodLocks k l) b := by
  have key := drop_ind0 l (fun n rs => ∀ ws m, Rel2 ws m → ws.length ≤ 8 * n → ∃ b, Ev (fun k => spec_GoodLocks_h3 k l ws l (l.length : Int) (n : Int)) b ∧ Ev (fun k => impl_areLocks_h3 k l m l (l.length : Int) (n : Int)) b) ?_ ?_
  · obtain ⟨b, b1, b2⟩ := key [] [] (fun n => rfl) (by simp)
    exact ⟨b, ev_congr (fun k => spec_GoodLocks_eq k l) b1, ev_congr (fun k => impl_GoodLocks_eq k l) ((ev_bind_iff (ev_congr (fun k => impl_areLocks_eq k l) b2)).2 (ev_some _))⟩
  · intro ws m hr _
    exact ⟨_, ev_last fun k => by rw [spec_GoodLocks_h3_eq, if_neg (by omega)], ev_last fun k => by rw [impl_areLocks_h3_eq, if_neg (by omega)]⟩
  · intro n x rs hn hx _ ih ws m hr hlen
    obtain ⟨s1, s2, s3⟩ := hB x (List.mem_of_getElem? hx)
    by_cases hok : keyB x.1 = true ∧ ((0 : Int) < (n : Int) → lessS (rdT LockK l ((n : Int) - 1)).1 x.1 = true) ∧ ¬ (x.2.1.length : Int) = 0 ∧ ¬ (8 : Int) < (x.2.2.length : Int)
    · obtain ⟨k1, k2, k3, k4⟩ := hok
      obtain ⟨b, b1, b2⟩ := holds_ev l hl x n hn s2 ws m (waits_ev l hl x n hn s2 (by omega) ih ws m hr hlen)
      refine ⟨b, ev_shift ?_, ev_shift ?_⟩
      · simp only [spec_GoodLocks_h3_eq, rdT_get (e := LockK) hx, wrap_pred (show n < 9223372036854775807 by omega), ev_bind_iff (l1Key_ev x.1 (by omega)), ev_ite_iff, ev_some_iff, ev_none_iff, k1]
        rw [if_pos (by omega), if_pos (by omega), if_pos (by omega)]
        repeat' split
        all_goals first | exact b1 | omega | simp_all
      · simp only [impl_areLocks_h3_eq, rdT_get (e := LockK) hx, wrap_pred (show n < 9223372036854775807 by omega), ev_bind_iff (isKey_ev x.1), ev_ite_iff, ev_some_iff, ev_none_iff, k1]
        rw [if_pos (by omega), if_pos (by omega), if_pos (by omega)]
        repeat' split
        all_goals first | exact b2 | omega | simp_all
    · refine ⟨false, ev_shift ?_, ev_shift ?_⟩
      · simp only [spec_GoodLocks_h3_eq, rdT_get (e := LockK) hx, wrap_pred (show n < 9223372036854775807 by omega), ev_bind_iff (l1Key_ev x.1 (by omega)), ev_ite_iff, ev_some_iff, ev_none_iff]
        rw [if_pos (by omega), if_pos (by omega), if_pos (by omega)]
        clear ih
        cases p1 : keyB x.1 with
        | false => simp
        | true =>
        by_cases c2 : (x.2.1.length : Int) = 0
        · by_cases c0 : (0 : Int) < (n : Int)
          · have d1 : (0 : Int) ≤ (n : Int) - 1 := by omega
            have d2 : (n : Int) - 1 < (l.length : Int) := by omega
            cases c1 : lessS (rdT LockK l ((n : Int) - 1)).1 x.1 <;> simp only [if_pos c0, if_pos d1, if_pos d2, if_pos c2] <;> simp
          · simp only [if_neg c0, if_pos c2]; simp
        · by_cases c3 : (8 : Int) < (x.2.2.length : Int)
          · by_cases c0 : (0 : Int) < (n : Int)
            · have d1 : (0 : Int) ≤ (n : Int) - 1 := by omega
              have d2 : (n : Int) - 1 < (l.length : Int) := by omega
              cases c1 : lessS (rdT LockK l ((n : Int) - 1)).1 x.1 <;> simp only [if_pos c0, if_pos d1, if_pos d2, if_neg c2, if_pos c3] <;> simp
            · simp only [if_neg c0, if_neg c2, if_pos c3]; simp
          · by_cases c0 : (0 : Int) < (n : Int)
            · have d1 : (0 : Int) ≤ (n : Int) - 1 := by omega
              have d2 : (n : Int) - 1 < (l.length : Int) := by omega
              cases c1 : lessS (rdT LockK l ((n : Int) - 1)).1 x.1 with
              | false => simp only [if_pos c0, if_pos d1, if_pos d2]; simp
              | true => exact absurd ⟨p1, fun _ => c1, c2, c3⟩ hok
            · exact absurd ⟨p1, fun h => absurd h c0, c2, c3⟩ hok
      · simp only [impl_areLocks_h3_eq, rdT_get (e := LockK) hx, wrap_pred (show n < 9223372036854775807 by omega), ev_bind_iff (isKey_ev x.1), ev_ite_iff, ev_some_iff, ev_none_iff]
        rw [if_pos (by omega), if_pos (by omega), if_pos (by omega)]
        clear ih
        cases p1 : keyB x.1 with
        | false => simp
        | true =>
        by_cases c2 : (x.2.1.length : Int) = 0
        · by_cases c0 : (0 : Int) < (n : Int)
          · have d1 : (0 : Int) ≤ (n : Int) - 1 := by omega
            have d2 : (n : Int) - 1 < (l.length : Int) := by omega
            cases c1 : lessS (rdT LockK l ((n : Int) - 1)).1 x.1 <;> simp only [if_pos c0, if_pos d1, if_pos d2, if_pos c2] <;> simp
          · simp only [if_neg c0, if_pos c2]; simp
        · by_cases c3 : (8 : Int) < (x.2.2.length : Int)
          · by_cases c0 : (0 : Int) < (n : Int)
            · have d1 : (0 : Int) ≤ (n : Int) - 1 := by omega
              have d2 : (n : Int) - 1 < (l.length : Int) := by omega
              cases c1 : lessS (rdT LockK l ((n : Int) - 1)).1 x.1 <;> simp only [if_pos c0, if_pos d1, if_pos d2, if_neg c2, if_pos c3] <;> simp
            · simp only [if_neg c0, if_neg c2, if_pos c3]; simp
          · by_cases c0 : (0 : Int) < (n : Int)
            · have d1 : (0 : Int) ≤ (n : Int) - 1 := by omega
              have d2 : (n : Int) - 1 < (l.length : Int) := by omega
              cases c1 : lessS (rdT LockK l ((n : Int) - 1)).1 x.1 with
              | false => simp only [if_pos c0, if_pos d1, if_pos d2]; simp
              | true => exact absurd ⟨p1, fun _ => c1, c2, c3⟩ hok
            · exact absurd ⟨p1, fun h => absurd h c0, c2, c3⟩ hok
theorem law (a0 : List LockT) (h0 : okT (.slice LockK) a0) : ∃ k, laws_FnExactGoodLocks k a0 = some true := by
  apply ev_fuel
  refine ev_congr (fun k => laws_FnExactGoodLocks_eq k a0) ?_
  obtain ⟨v, hv, _, hB⟩ := szLockS_ev a0 (by have := h0.1; omega) (fun x hx => ⟨(h0.2 x hx).1, (h0.2 x hx).2.1.1, (h0.2 x hx).2.2.1⟩) 1048576 (by omega) (by omega)
  refine ev_bind hv ?_
  by_cases hneg : v < 0
  · exact ev_if_pos hneg (ev_some _)
  refine ev_if_neg hneg ?_
  obtain ⟨hl, hs⟩ := hB (by omega)
  obtain ⟨b, b1, b2⟩ := locks_ev a0 hl hs
  have to := toLockS_ev a0 hl hs
  exact ev_bind to (ev_bind b1 (ev_bind to (ev_bind b2 (ev_if_neg (by simp) (ev_bind to (ev_bind (eqLockS_ev a0 hl hs) (ev_if_neg (by simp) (ev_some _))))))))

end Go.Proofs.YtjckjjpldplckaaDoor.Fms
