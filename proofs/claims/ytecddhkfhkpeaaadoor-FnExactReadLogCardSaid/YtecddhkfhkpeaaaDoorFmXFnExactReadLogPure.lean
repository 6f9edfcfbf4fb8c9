/- What the law's functions give: the pure part. -/
import Derived.Test.YtecddhkfhkpeaaaDoorFmAid
import Derived.Test.YtecddhkfhkpeaaaDoorFmOpn
import Derived.Test.YtecddhkfhkpeaaaDoorFmXFnExactReadLogEq
set_option autoImplicit true
set_option maxRecDepth 100000
set_option linter.unusedVariables false
set_option linter.unusedSimpArgs false
set_option linter.unnecessarySimpa false
set_option linter.unusedSectionVars false
open Go Go.Fm Go.RowKit
namespace Go.Proofs.YtecddhkfhkpeaaaDoor.Fms
/-! ### base -/
theorem l1In_ev (n lo hi : Int) : Ev (fun k => spec_l1In k n lo hi) (decide (lo ≤ n ∧ n ≤ hi)) := ev_congr (fun k => by rw [spec_l1In_eq]) (by by_cases h : lo ≤ n <;> simp [ev_some_iff, h])

/-! ### inn -/
theorem in_ev (n lo hi : Int) : Ev (fun k => impl_in k n lo hi) (decide (lo ≤ n ∧ n ≤ hi)) := ev_congr (fun k => by rw [impl_in_eq]) (by by_cases h : lo ≤ n <;> simp [ev_some_iff, h])

/-! ### keys -/
def keyByte (b : UInt8) : Bool := (decide (97 ≤ b.toNat) && decide (b.toNat ≤ 122)) || (decide (48 ≤ b.toNat) && decide (b.toNat ≤ 57))
def keyB (s : ByteArray) : Bool := decide (1 ≤ s.size ∧ s.size ≤ 8) && s.data.toList.all keyByte
def keyCut : List UInt8 := [97, 98, 99, 100, 101, 102, 103, 104, 105, 106, 107, 108, 109, 110, 111, 112, 113, 114, 115, 116, 117, 118, 119, 120, 121, 122, 48, 49, 50, 51, 52, 53, 54, 55, 56, 57]
theorem keyCut_has (b : UInt8) : keyCut.contains b = keyByte b := by
  have h : ∀ n : Fin 256, keyCut.contains (UInt8.ofNat n.val) = keyByte (UInt8.ofNat n.val) := by decide +kernel
  have := h ⟨b.toNat, b.toNat_lt⟩
  simpa using this
theorem drop_nil {α : Type} (p : α → Bool) (l : List α) : (l.dropWhile p).isEmpty = l.all p := by
  induction l with
  | nil => rfl
  | cons x l ih => cases h : p x <;> simp [List.dropWhile_cons, h, ih]
theorem all_drop {α : Type} (p : α → Bool) (l : List α) : (l.dropWhile p).all p = l.all p := by
  induction l with
  | nil => rfl
  | cons x l ih => cases h : p x <;> simp [List.dropWhile_cons, h, ih]
theorem trim_nil (l : List UInt8) : (Go.Lib.trimS l keyCut).isEmpty = l.all keyByte := by
  unfold Go.Lib.trimS Go.Lib.trimLeftS Go.Lib.trimRightS
  rw [drop_nil, List.all_reverse, all_drop, List.all_reverse]
  congr 1
  funext b
  exact keyCut_has b
theorem mk_nil (l : List UInt8) : decide ((⟨l.toArray⟩ : ByteArray) = ByteArray.mk (Array.mk [])) = l.isEmpty := by
  cases l with
  | nil => exact decide_eq_true rfl
  | cons x l => exact decide_eq_false (fun h => by have := congrArg (fun b : ByteArray => b.data.size) h; simp at this)
theorem isKey_ev (s : ByteArray) : Ev (fun k => impl_isKey k s) (keyB s) := by
  refine ev_congr (fun k => impl_isKey_eq k s) ?_
  have e : MapW.strings_Trim.f s ⟨#[97, 98, 99, 100, 101, 102, 103, 104, 105, 106, 107, 108, 109, 110, 111, 112, 113, 114, 115, 116, 117, 118, 119, 120, 121, 122, 48, 49, 50, 51, 52, 53, 54, 55, 56, 57]⟩ = if s.size ≤ 9223372036854775807 then some ⟨(Go.Lib.trimS s.data.toList keyCut).toArray⟩ else none := by
    unfold MapW.strings_Trim.f
    by_cases h : s.size ≤ 9223372036854775807
    · rw [if_pos ⟨h, by decide, by decide⟩, if_pos h]; rfl
    · rw [if_neg (fun hh => h hh.1), if_neg h]
  simp only [e]
  unfold keyB
  by_cases h1 : (1 : Int) ≤ (s.size : Int)
  · by_cases h2 : (s.size : Int) ≤ 8
    · have h3 : 1 ≤ s.size ∧ s.size ≤ 8 := by omega
      rw [if_pos h1, if_pos h2, if_pos (by omega)]
      simp only [Option.bind_some, mk_nil, trim_nil, h3, decide_true, and_self, Bool.true_and]
      exact ev_some _
    · have h3 : ¬ (1 ≤ s.size ∧ s.size ≤ 8) := by omega
      rw [if_pos h1, if_neg h2]
      simp only [h3, decide_false, Bool.false_and]
      exact ev_some _
  · have h3 : ¬ (1 ≤ s.size ∧ s.size ≤ 8) := by omega
    rw [if_neg h1]
    simp only [h3, decide_false, Bool.false_and]
    exact ev_some _
theorem l1Key_ev (s : ByteArray) (hs : s.size ≤ 140737488355328) : Ev (fun k => spec_l1Key k s) (keyB s) := by
  have hl := size_len s
  have key := drop_ind0 s.data.toList (fun n rest => Ev (fun k => spec_l1Key_h2 k s (n : Int)) (rest.all keyByte && decide (1 ≤ s.size ∧ s.size ≤ 8))) ?_ ?_
  · refine ev_congr (fun k => spec_l1Key_eq k s) ?_
    unfold keyB
    rw [Bool.and_comm]
    exact key
  · refine ev_shift ?_
    simp only [spec_l1Key_h2_eq, ev_ite_iff, ev_bind_iff (l1In_ev _ _ _), ev_some_iff]
    rw [← hl, if_neg (by omega)]
    simp only [List.all_nil, Bool.true_and]
    congr 1
    exact propext ⟨fun h => by omega, fun h => by omega⟩
  · intro n b rest hn hx hd ih
    refine ev_shift ?_
    simp only [spec_l1Key_h2_eq, bt_nat hx, wrap_nat (show n < 9223372036854775807 by omega), ev_ite_iff, ev_some_iff, ev_none_iff, List.all_cons]
    rw [if_pos (by omega), if_pos (by omega), if_pos (by omega)]
    cases hp : keyByte b with
    | true =>
      simp only [Bool.true_and]
      simp only [keyByte, Bool.or_eq_true, Bool.and_eq_true, decide_eq_true_eq] at hp
      split
      · split
        · exact ih
        · rw [if_pos (by omega), if_neg (by omega)]; exact ih
      · rw [if_pos (by omega), if_neg (by omega)]; exact ih
    | false =>
      simp only [keyByte, Bool.or_eq_false_iff, Bool.and_eq_false_iff, decide_eq_false_iff_not] at hp
      simp only [Bool.false_and]
      split
      · rw [if_neg (by omega)]
        split
        · rw [if_pos (by omega)]; trivial
        · trivial
      · split
        · rw [if_pos (by omega)]; trivial
        · trivial

/-! ### allloop -/
/-! a loop that asks the same of each -/
def allFrom {α : Type} (p : Nat → α → Bool) : Nat → List α → Bool
  | _, [] => true
  | n, x :: l => p n x && allFrom p (n + 1) l
theorem allFrom_iff {α : Type} {p : Nat → α → Bool} : ∀ {l : List α} {n : Nat}, allFrom p n l = true ↔ ∀ i x, l[i]? = some x → p (n + i) x = true
  | [], n => by simp [allFrom]
  | x :: l, n => by
    simp only [allFrom, Bool.and_eq_true, allFrom_iff (l := l)]
    constructor
    · rintro ⟨h1, h2⟩ i y hy
      cases i with
      | zero => simp at hy; subst hy; exact h1
      | succ i => rw [show n + (i + 1) = n + 1 + i by omega]; exact h2 i y (by simpa using hy)
    · intro h
      refine ⟨h 0 x (by simp), fun i y hy => ?_⟩
      rw [show n + 1 + i = n + (i + 1) by omega]
      exact h (i + 1) y (by simpa using hy)
theorem all_loop {α : Type} (xs : List α) (H : Nat → Int → Option Bool) (p : Nat → α → Bool) (r : Bool) (hend : Ev (fun k => H k (xs.length : Int)) r)
    (hstep : ∀ n x v, n < xs.length → xs[n]? = some x → Ev (fun k => H k ((n + 1 : Nat) : Int)) v → Ev (fun k => H (k + 1) (n : Int)) (p n x && v)) : Ev (fun k => H k 0) (allFrom p 0 xs && r) := by
  have := drop_ind0 xs (fun n rest => Ev (fun k => H k (n : Int)) (allFrom p n rest && r)) (by simpa [allFrom] using hend) (fun n x rest hn hx _ ih => ?_)
  · simpa using this
  · refine ev_shift ?_
    have h := hstep n x _ hn hx ih
    rw [← Bool.and_assoc] at h
    exact h

/-! ### value -/
def chB (b : UInt8) : Bool := decide (32 ≤ b.toNat) && (decide (b.toNat ≤ 126) && !decide (b.toNat = 59))
def valB (s : ByteArray) : Bool := allFrom (fun _ b => chB b) 0 s.data.toList && decide (s.size ≤ 20)
theorem isValue_ev (s : ByteArray) (hs : s.size ≤ 140737488355328) : Ev (fun k => impl_isValue k s) (valB s) := by
  have hl := size_len s
  refine ev_congr (fun k => impl_isValue_eq k s) ?_
  refine all_loop s.data.toList (fun k i => impl_isValue_h2 k s (s.size : Int) i) (fun _ b => chB b) (decide (s.size ≤ 20)) ?_ ?_
  · refine ev_shift ?_
    simp only [impl_isValue_h2_eq, ev_ite_iff, ev_some_iff]
    rw [← hl, if_neg (by omega)]
    congr 1
    exact propext ⟨fun h => by omega, fun h => by omega⟩
  · intro n b v hn hx hv
    simp only [impl_isValue_h2_eq, bt_nat hx, wrap_nat (show n < 9223372036854775807 by omega), ev_ite_iff, ev_some_iff, ev_none_iff]
    have e0 : (0 : Int) ≤ (n : Int) := by omega
    have e1 : (n : Int) < (s.size : Int) := by omega
    simp only [if_pos e0, if_pos e1]
    unfold chB
    by_cases h1 : (b.toNat : Int) < 32
    · rw [if_pos h1]; simp [show ¬ 32 ≤ b.toNat by omega]
    · rw [if_neg h1]
      by_cases h2 : 126 < (b.toNat : Int)
      · rw [if_pos h2]; simp [show ¬ b.toNat ≤ 126 by omega]
      · rw [if_neg h2]
        by_cases h3 : (b.toNat : Int) = 59
        · rw [if_pos h3]; simp [show b.toNat = 59 by omega]
        · rw [if_neg h3]
          simpa [show 32 ≤ b.toNat by omega, show b.toNat ≤ 126 by omega, show ¬ b.toNat = 59 by omega] using hv
theorem l1Value_ev (s : ByteArray) (hs : s.size ≤ 140737488355328) : Ev (fun k => spec_l1Value k s) (valB s) := by
  have hl := size_len s
  refine ev_congr (fun k => spec_l1Value_eq k s) ?_
  refine all_loop s.data.toList (fun k i => spec_l1Value_h2 k s i) (fun _ b => chB b) (decide (s.size ≤ 20)) ?_ ?_
  · refine ev_shift ?_
    simp only [spec_l1Value_h2_eq, ev_ite_iff, ev_some_iff]
    rw [← hl, if_neg (by omega)]
    congr 1
    exact propext ⟨fun h => by omega, fun h => by omega⟩
  · intro n b v hn hx hv
    simp only [spec_l1Value_h2_eq, bt_nat hx, wrap_nat (show n < 9223372036854775807 by omega), ev_ite_iff, ev_some_iff, ev_none_iff]
    have e0 : (0 : Int) ≤ (n : Int) := by omega
    have e1 : (n : Int) < (s.size : Int) := by omega
    simp only [if_pos e0, if_pos e1]
    unfold chB
    by_cases h1 : (b.toNat : Int) < 32
    · rw [if_pos h1]; simp [show ¬ 32 ≤ b.toNat by omega]
    · rw [if_neg h1]
      by_cases h2 : 126 < (b.toNat : Int)
      · rw [if_pos h2]; simp [show ¬ b.toNat ≤ 126 by omega]
      · rw [if_neg h2]
        by_cases h3 : (b.toNat : Int) = 59
        · rw [if_pos h3]; simp [show b.toNat = 59 by omega]
        · rw [if_neg h3]
          simpa [show 32 ≤ b.toNat by omega, show b.toNat ≤ 126 by omega, show ¬ b.toNat = 59 by omega] using hv

/-! ### tid0 -/
abbrev TidT := Int × Int × Bool
abbrev TidK : Kind := .struct (.pair (.int .i64) (.pair (.int .i64) .bool))
def tidB (t : TidT) : Bool := decide (0 ≤ t.1 ∧ t.1 ≤ 1048575) && decide (0 ≤ t.2.1 ∧ t.2.1 ≤ 16777215)
theorem isTid_ev (t : TidT) : Ev (fun k => impl_isTid k t) (tidB t) := by
  refine ev_congr (fun k => impl_isTid_eq k t) ?_
  simp only [ev_bind_iff (in_ev _ _ _), ev_ite_iff, ev_some_iff, tidB]
  by_cases h : 0 ≤ t.1 ∧ t.1 ≤ 1048575 <;> simp [h]
theorem l1Tid_ev (t : TidT) : Ev (fun k => spec_l1Tid k t) (tidB t) := by
  refine ev_congr (fun k => spec_l1Tid_eq k t) ?_
  simp only [ev_bind_iff (l1In_ev _ _ _), ev_ite_iff, ev_some_iff, tidB]
  by_cases h : 0 ≤ t.1 ∧ t.1 ≤ 1048575 <;> simp [h]

/-! ### tideq -/
theorem eqTid_ev (x : TidT) : Ev (fun k => laws_eqTid k x x) true := ev_congr (fun k => laws_eqTid_eq k x x) (by simp [ev_some_iff])

/-! ### cats -/
theorem wrap_i64 {x : Int} (h0 : -9223372036854775808 ≤ x) (h1 : x ≤ 9223372036854775807) : IntKind.wrap .i64 x = x := by
  rw [← wrapK_eq]; unfold wrapK; rw [if_pos rfl]; exact wrap_of h0 h1
theorem catS_size0 (a b : ByteArray) : (catS a b).size = a.size + b.size := by
  show (catS a b).data.size = a.data.size + b.data.size
  simp [catS]

/-! ### entry00 -/
abbrev EntT := Int × ByteArray × ByteArray × TidT
abbrev EntK : Kind := .struct (.pair (.int .i64) (.pair .str (.pair .str TidK)))
def szBEntry (x : EntT) : Prop := x.2.1.size ≤ 1048576 ∧ x.2.2.1.size ≤ 1048576
theorem eqEntry_ev (x : EntT) : Ev (fun k => laws_eqEntry k x x) true := ev_congr (fun k => laws_eqEntry_eq k x x) (ev_if_neg (by simp) (ev_if_neg (by simp) (ev_if_neg (by simp) (ev_bind (eqTid_ev _) (ev_if_neg (by simp) (ev_some _))))))
/-! good entries, good logs -/
def nilTid (t : TidT) : Bool := Bool.and (decide (t.1 = 0)) (Bool.and (decide (t.2.1 = 0)) (decide (t.2.2 = false)))
def sameTid (a b : TidT) : Bool := Bool.and (decide (a.1 = b.1)) (Bool.and (decide (a.2.1 = b.2.1)) (decide (a.2.2 = b.2.2)))
theorem sameTid_iff (a b : TidT) : sameTid a b = true ↔ a = b := by
  unfold sameTid
  simp only [Bool.and_eq_true, decide_eq_true_eq]
  constructor
  · rintro ⟨h1, h2, h3⟩
    exact Prod.ext h1 (Prod.ext h2 h3)
  · rintro rfl; exact ⟨rfl, rfl, rfl⟩
theorem sameTid_comm (a b : TidT) : sameTid a b = sameTid b a := by
  rw [Bool.eq_iff_iff, sameTid_iff, sameTid_iff]
  exact ⟨Eq.symm, Eq.symm⟩
def entryB (x : EntT) : Bool := decide (0 ≤ x.1 ∧ x.1 ≤ 65535) && (keyB x.2.1 && (valB x.2.2.1 && (tidB x.2.2.2 && (!x.2.2.2.2.2 && !nilTid x.2.2.2))))
theorem l6Entry_ev (x : EntT) (h : szBEntry x) : Ev (fun k => spec_l6Entry k x) (entryB x) := by
  refine ev_congr (fun k => spec_l6Entry_eq k x) ?_
  have e : Bool.and (decide (x.2.2.2.1 = 0)) (Bool.and (decide (x.2.2.2.2.1 = 0)) (decide (x.2.2.2.2.2 = false))) = nilTid x.2.2.2 := rfl
  simp only [ev_bind_iff (l1In_ev _ _ _), ev_bind_iff (l1Key_ev x.2.1 (Nat.le_trans h.1 (by omega))), ev_bind_iff (l1Value_ev x.2.2.1 (Nat.le_trans h.2 (by omega))), ev_bind_iff (l1Tid_ev _), ev_ite_iff, ev_some_iff, e]
  unfold entryB
  generalize nilTid x.2.2.2 = nb
  by_cases c1 : 0 ≤ x.1 ∧ x.1 ≤ 65535 <;> cases keyB x.2.1 <;> cases valB x.2.2.1 <;> cases tidB x.2.2.2 <;> cases x.2.2.2.2.2 <;> cases nb <;> simp [c1]
theorem isEntry_ev (x : EntT) (h : szBEntry x) : Ev (fun k => impl_isEntry k x) (entryB x) := by
  refine ev_congr (fun k => impl_isEntry_eq k x) ?_
  have e : Bool.and (decide (x.2.2.2.1 = 0)) (Bool.and (decide (x.2.2.2.2.1 = 0)) (decide (x.2.2.2.2.2 = false))) = nilTid x.2.2.2 := rfl
  simp only [ev_bind_iff (in_ev _ _ _), ev_bind_iff (isKey_ev x.2.1), ev_bind_iff (isValue_ev x.2.2.1 (Nat.le_trans h.2 (by omega))), ev_bind_iff (isTid_ev _), ev_ite_iff, ev_some_iff, e]
  unfold entryB
  generalize nilTid x.2.2.2 = nb
  by_cases c1 : 0 ≤ x.1 ∧ x.1 ≤ 65535 <;> cases keyB x.2.1 <;> cases valB x.2.2.1 <;> cases tidB x.2.2.2 <;> cases x.2.2.2.2.2 <;> cases nb <;> simp [c1]
def alikeB (x o : EntT) : Bool := !(decide (o.2.1 = x.2.1) && (sameTid o.2.2.2 x.2.2.2 && !decide (o.2.2.1 = x.2.2.1)))
theorem alike_loop {H : Nat → Int → Option Bool} (p : List EntT) (x : EntT) (r : Bool) (hend : Ev (fun k => H k (p.length : Int)) r)
    (hstep : ∀ n o v, n < p.length → p[n]? = some o → Ev (fun k => H k ((n + 1 : Nat) : Int)) v → Ev (fun k => H (k + 1) (n : Int)) (alikeB x o && v)) : Ev (fun k => H k 0) (p.all (alikeB x) && r) := by
  have := all_loop p H (fun _ o => alikeB x o) r hend hstep
  have e : ∀ (l : List EntT) (n : Nat), allFrom (fun _ o => alikeB x o) n l = l.all (alikeB x) := by
    intro l
    induction l with
    | nil => intro n; rfl
    | cons o l ih => intro n; simp only [allFrom, ih, List.all_cons]
  rw [e] at this
  exact this
def logFrom (p : List EntT) : List EntT → Bool
  | [] => true
  | x :: r => entryB x && (p.all (alikeB x) && logFrom (p ++ [x]) r)
def alikeFrom (p : List EntT) : List EntT → Bool
  | [] => true
  | x :: r => p.all (alikeB x) && alikeFrom (p ++ [x]) r
def logB (l : List EntT) : Bool := logFrom [] l && decide (l.length ≤ 80)
theorem logFrom_two : ∀ (r p : List EntT), logFrom p r = (r.all entryB && alikeFrom p r)
  | [], _ => rfl
  | x :: r, p => by
    simp only [logFrom, alikeFrom, List.all_cons, logFrom_two r]
    cases entryB x <;> cases p.all (alikeB x) <;> cases r.all entryB <;> simp
theorem dec_eighty (n : Nat) : decide ((n : Int) ≤ 80) = decide (n ≤ 80) := by by_cases h : n ≤ 80 <;> simp [h] <;> omega
theorem specLog_ev (l : List EntT) (hl : l.length ≤ 1048576) (hk : ∀ x ∈ l, szBEntry x) : Ev (fun k => spec_GoodLog k l) (logB l) := by
  refine ev_congr (fun k => spec_GoodLog_eq k l) ?_
  refine drop_ind0 l (fun n rest => Ev (fun k => spec_GoodLog_h2 k l l (l.length : Int) (n : Int)) (logFrom (l.take n) rest && decide (l.length ≤ 80))) ?_ ?_
  · exact ev_last fun k => by rw [spec_GoodLog_h2_eq, if_neg (by omega)]; simp [logFrom, dec_eighty]
  · intro n x rest hn hx _ ih
    rw [take_snoc hx] at ih
    have hlen : (l.take n).length = n := by simp; omega
    have hsl : (List.drop (Int.toNat 0) (List.take (Int.toNat (n : Int)) l)) = l.take n := by simp
    have inner : Ev (fun k => spec_GoodLog_h7 k l x l (l.length : Int) (n : Int) (l.take n) ((l.take n).length : Int) 0) ((l.take n).all (alikeB x) && (logFrom (l.take n ++ [x]) rest && decide (l.length ≤ 80))) := by
      refine alike_loop (H := fun k i => spec_GoodLog_h7 k l x l (l.length : Int) (n : Int) (l.take n) ((l.take n).length : Int) i) (l.take n) x _ ?_ ?_
      · refine ev_shift ?_
        simp only [spec_GoodLog_h7_eq, wrap_nat (show n < 9223372036854775807 by omega), ev_ite_iff]
        rw [if_neg (by omega)]
        exact ih
      · intro j o v hj ho H
        have q0 : (0 : Int) ≤ (j : Int) := by omega
        have q1 : (j : Int) < ((l.take n).length : Int) := by omega
        have e : Bool.and (decide (o.2.2.2.1 = x.2.2.2.1)) (Bool.and (decide (o.2.2.2.2.1 = x.2.2.2.2.1)) (decide (o.2.2.2.2.2 = x.2.2.2.2.2))) = sameTid o.2.2.2 x.2.2.2 := rfl
        simp only [spec_GoodLog_h7_eq, rdT_get (e := EntK) ho, wrap_nat (show j < 9223372036854775807 by omega), ev_ite_iff, ev_none_iff, ev_some_iff, e]
        rw [if_pos q1, if_pos q0, if_pos q1]
        unfold alikeB
        by_cases a1 : o.2.1 = x.2.1
        · by_cases a2 : sameTid o.2.2.2 x.2.2.2 = true
          · by_cases a3 : o.2.2.1 = x.2.2.1
            · simpa [a1, a2, a3] using H
            · simp [a1, a2, a3]
          · simpa [a1, a2] using H
        · simpa [a1] using H
    have q0 : (0 : Int) ≤ (n : Int) := by omega
    have q1 : (n : Int) < (l.length : Int) := by omega
    have q2 : (n : Int) ≤ (l.length : Int) := by omega
    refine ev_shift ?_
    simp only [spec_GoodLog_h2_eq, rdT_get (e := EntK) hx, hsl, ev_bind_iff (l6Entry_ev x (hk x (List.mem_of_getElem? hx))), ev_ite_iff, ev_none_iff, ev_some_iff]
    rw [if_pos q1, if_pos q0, if_pos q1]
    have hno : (logFrom (l.take n) (x :: rest) && decide (l.length ≤ 80)) = (entryB x && ((l.take n).all (alikeB x) && (logFrom (l.take n ++ [x]) rest && decide (l.length ≤ 80)))) := by simp only [logFrom, Bool.and_assoc]
    rw [hno]
    by_cases hb : entryB x = true
    · rw [if_neg (by simp [hb]), if_pos q0, if_pos q2, hb, Bool.true_and]
      exact inner
    · rw [if_pos (by simp [hb])]
      simp [hb]
theorem isLog1_ev (x : EntT) (h : szBEntry x) : Ev (fun k => impl_isLog_1 k x) (!entryB x) := by
  refine ev_congr (fun k => impl_isLog_1_eq k x) ?_
  simp only [ev_bind_iff (isEntry_ev x h), ev_some_iff]
theorem idx_nonneg {α : Type} (p : α → Bool) : ∀ (l : List α) (n : Nat), decide (0 ≤ idxFrom p n l) = l.any p
  | [], n => rfl
  | x :: l, n => by
    rw [List.any_cons, ← idx_nonneg p l (n + 1), idxFrom]
    by_cases h : p x = true <;> simp [h]
theorem hasBad_ev (l : List EntT) (hl : l.length ≤ 1048576) (hk : ∀ x ∈ l, szBEntry x) : Ev (fun k => slices_ContainsFunc k l ()) (l.any fun x => !entryB x) := by
  have key := drop_ind0 l (fun n rest => Ev (fun k => slices_IndexFunc_h2 k l () (l.length : Int) (n : Int)) (idxFrom (fun x => !entryB x) n rest)) ?_ ?_
  · refine ev_congr (fun k => slices_ContainsFunc_eq k l _) ?_
    simp only [ev_bind_iff (ev_congr (fun k => slices_IndexFunc_eq k l ()) key), ev_some_iff, idx_nonneg]
  · exact ev_last fun k => by rw [slices_IndexFunc_h2_eq, if_neg (by omega)]; rfl
  · intro n x rest hn hx _ ih
    have q0 : (0 : Int) ≤ (n : Int) := by omega
    have q1 : (n : Int) < (l.length : Int) := by omega
    refine ev_shift ?_
    simp only [slices_IndexFunc_h2_eq, ev_bind_iff (isLog1_ev x (hk x (List.mem_of_getElem? hx))), rdT_get (e := EntK) hx, wrap_nat (show n < 9223372036854775807 by omega), ev_ite_iff, ev_none_iff, ev_some_iff, idxFrom]
    rw [if_pos q1, if_pos q0, if_pos q1]
    by_cases h1 : entryB x = true
    · rw [if_neg (by simp [h1]), if_neg (by simp [h1])]
      exact ih
    · rw [if_pos (by simp [h1]), if_pos (by simp [h1])]
theorem areAlike_ev (l : List EntT) (hl : l.length ≤ 1048576) : Ev (fun k => impl_areAlike k l) (alikeFrom [] l) := by
  refine ev_congr (fun k => impl_areAlike_eq k l) ?_
  refine drop_ind0 l (fun n rest => Ev (fun k => impl_areAlike_h2 k l l (l.length : Int) (n : Int)) (alikeFrom (l.take n) rest)) ?_ ?_
  · exact ev_last fun k => by rw [impl_areAlike_h2_eq, if_neg (by omega)]; rfl
  · intro n x rest hn hx _ ih
    rw [take_snoc hx] at ih
    have hlen : (l.take n).length = n := by simp; omega
    have hsl : (List.drop (Int.toNat 0) (List.take (Int.toNat (n : Int)) l)) = l.take n := by simp
    have inner : Ev (fun k => impl_areAlike_h5 k l x l (l.length : Int) (n : Int) (l.take n) ((l.take n).length : Int) 0) ((l.take n).all (alikeB x) && alikeFrom (l.take n ++ [x]) rest) := by
      refine alike_loop (H := fun k i => impl_areAlike_h5 k l x l (l.length : Int) (n : Int) (l.take n) ((l.take n).length : Int) i) (l.take n) x _ ?_ ?_
      · refine ev_shift ?_
        simp only [impl_areAlike_h5_eq, wrap_nat (show n < 9223372036854775807 by omega), ev_ite_iff]
        rw [if_neg (by omega)]
        exact ih
      · intro j o v hj ho H
        have q0 : (0 : Int) ≤ (j : Int) := by omega
        have q1 : (j : Int) < ((l.take n).length : Int) := by omega
        have e : Bool.and (decide (x.2.2.2.1 = o.2.2.2.1)) (Bool.and (decide (x.2.2.2.2.1 = o.2.2.2.2.1)) (decide (x.2.2.2.2.2 = o.2.2.2.2.2))) = sameTid o.2.2.2 x.2.2.2 := sameTid_comm x.2.2.2 o.2.2.2
        simp only [impl_areAlike_h5_eq, rdT_get (e := EntK) ho, wrap_nat (show j < 9223372036854775807 by omega), ev_ite_iff, ev_none_iff, ev_some_iff, e]
        rw [if_pos q1, if_pos q0, if_pos q1]
        unfold alikeB
        by_cases a1 : o.2.1 = x.2.1
        · by_cases a2 : sameTid o.2.2.2 x.2.2.2 = true
          · by_cases a3 : o.2.2.1 = x.2.2.1
            · simpa [a1, a2, a3] using H
            · simp [a1, a2, a3, Ne.symm a3]
          · simpa [a1, a2] using H
        · simpa [a1, Ne.symm a1] using H
    have q0 : (0 : Int) ≤ (n : Int) := by omega
    have q1 : (n : Int) < (l.length : Int) := by omega
    have q2 : (n : Int) ≤ (l.length : Int) := by omega
    refine ev_shift ?_
    simp only [impl_areAlike_h2_eq, rdT_get (e := EntK) hx, hsl, ev_ite_iff, ev_none_iff]
    rw [if_pos q1, if_pos q0, if_pos q1, if_pos q0, if_pos q2]
    exact inner
theorem implLog_ev (l : List EntT) (hl : l.length ≤ 1048576) (hk : ∀ x ∈ l, szBEntry x) : Ev (fun k => impl_isLog k l) (logB l) := by
  refine ev_congr (fun k => impl_isLog_eq k l) ?_
  simp only [ev_bind_iff (hasBad_ev l hl hk), ev_bind_iff (areAlike_ev l hl), ev_ite_iff, ev_some_iff]
  unfold logB
  rw [logFrom_two]
  have e : (l.any fun x => !entryB x) = !l.all entryB := by
    rw [Bool.eq_iff_iff]
    simp
  rw [e]
  by_cases h8 : l.length ≤ 80
  · rw [if_pos (by omega)]
    cases l.all entryB <;> simp [h8]
  · rw [if_neg (by omega)]
    simp [h8]
theorem log_all {l : List EntT} (h : logB l = true) : (∀ x ∈ l, entryB x = true) ∧ l.length ≤ 80 := by
  unfold logB at h
  rw [logFrom_two] at h
  simp only [Bool.and_eq_true, List.all_eq_true, decide_eq_true_eq] at h
  exact ⟨h.1.1, h.2⟩

/-! ### entryeq -/
theorem eqEntryS_ev (l) (hl : l.length ≤ 140737488355328) : Ev (fun k => laws_eqEntryS k l l) true := by
  refine ev_congr (fun k => laws_eqEntryS_eq k l l) ?_
  simp only [ev_ite_iff]
  rw [if_neg (by simp)]
  exact eq_row (l := l) (fun k a b i => laws_eqEntryS_h4_eq k a b i) (fun x _ => eqEntry_ev x) (by omega)

/-! ### logtext0 -/
/-! LogText: the digits of a number, an entry's text -/
theorem nDigits_le (u : Nat) : Lib.nDigits u ≤ u + 1 := by
  induction u using Nat.strongRecOn with
  | _ u ih =>
    by_cases h : u < 10
    · rw [Lib.nDigits_small h]; omega
    · rw [Lib.nDigits_big h]
      have := ih (u / 10) (by omega)
      omega
theorem itoa_size (n : Nat) : (gvItoa (n : Int)).size ≤ n + 1 := by
  have h : (gvItoa (n : Int)).size = (Lib.decDigits n).length := by
    show ((Lib.itoa (n : Int)).toArray).size = _
    rw [Lib.itoa_nonneg]; simp
  rw [h, Lib.decDigits_length]
  exact nDigits_le n
theorem digit_one {n : Nat} (h : n < 10) : bytesOf [IntKind.wrap .u8 (wrap64 (48 + (n : Int)))] = ⟨[UInt8.ofNat (48 + n)].toArray⟩ := by
  have : n = 0 ∨ n = 1 ∨ n = 2 ∨ n = 3 ∨ n = 4 ∨ n = 5 ∨ n = 6 ∨ n = 7 ∨ n = 8 ∨ n = 9 := by omega
  rcases this with rfl | rfl | rfl | rfl | rfl | rfl | rfl | rfl | rfl | rfl <;> decide +kernel
theorem digit_size (z : Int) : (bytesOf [z]).size = 1 := rfl
theorem l1Num_ev : ∀ (n : Nat), n ≤ 1073741824 → Ev (fun k => spec_l1Num k (n : Int)) (gvItoa (n : Int)) := by
  intro n
  induction n using Nat.strongRecOn with
  | _ n ih =>
    intro hn
    refine ev_shift ?_
    by_cases h : n < 10
    · simp only [spec_l1Num_eq, ev_ite_iff, ev_some_iff]
      rw [if_pos (by omega), digit_one h]
      unfold gvItoa
      rw [Lib.itoa_nonneg, Lib.decDigits_one h]
    · have hd : Int.tdiv (n : Int) 10 = ((n / 10 : Nat) : Int) := by rw [Int.tdiv_eq_ediv_of_nonneg (by omega)]; omega
      have hm : Int.tmod (n : Int) 10 = ((n % 10 : Nat) : Int) := by rw [Int.tmod_eq_emod_of_nonneg (by omega)]; omega
      have hw : IntKind.wrap .i64 ((n / 10 : Nat) : Int) = ((n / 10 : Nat) : Int) := wrap_i64 (by omega) (by omega)
      simp only [spec_l1Num_eq, ev_ite_iff, hd, hw, hm, ev_bind_iff (ih (n / 10) (by omega) (by omega)), ev_some_iff, ev_none_iff, digit_size]
      have := itoa_size (n / 10)
      rw [if_neg (by omega), if_pos (by omega), digit_one (show n % 10 < 10 by omega)]
      unfold gvItoa catS
      rw [Lib.itoa_nonneg, Lib.itoa_nonneg]
      conv => rhs; rw [Lib.decDigits, dif_neg h]
def ch32 : ByteArray := ByteArray.mk (Array.mk (List.cons 32 []))
def ch46 : ByteArray := ByteArray.mk (Array.mk (List.cons 46 []))
def ch61 : ByteArray := ByteArray.mk (Array.mk (List.cons 61 []))
def ch59 : ByteArray := ByteArray.mk (Array.mk (List.cons 59 []))
def entTx (x : EntT) : ByteArray := catS (catS (catS (catS (catS (catS (catS (catS (catS (gvItoa x.1) ch32) (gvItoa x.2.2.2.1)) ch46) (gvItoa x.2.2.2.2.1)) ch32) x.2.1) ch61) x.2.2.1) ch59
def smallE (x : EntT) : Prop := (0 ≤ x.1 ∧ x.1 ≤ 16777216) ∧ (0 ≤ x.2.2.2.1 ∧ x.2.2.2.1 ≤ 16777216) ∧ (0 ≤ x.2.2.2.2.1 ∧ x.2.2.2.2.1 ≤ 16777216) ∧ x.2.1.size ≤ 1048576 ∧ x.2.2.1.size ≤ 1048576
theorem itoa_sizeI {n : Int} (h0 : 0 ≤ n) (h1 : n ≤ 16777216) : (gvItoa n).size ≤ 16777217 := by
  have := itoa_size n.toNat
  rw [show ((n.toNat : Nat) : Int) = n by omega] at this
  omega
theorem l1NumI_ev {n : Int} (h0 : 0 ≤ n) (h1 : n ≤ 16777216) : Ev (fun k => spec_l1Num k n) (gvItoa n) := by
  have := l1Num_ev n.toNat (by omega)
  rwa [show ((n.toNat : Nat) : Int) = n by omega] at this
theorem entTx_size (x : EntT) (h : smallE x) : (entTx x).size ≤ 100000000 := by
  obtain ⟨h1, h2, h3, h4, h5⟩ := h
  have a1 := itoa_sizeI h1.1 h1.2
  have a2 := itoa_sizeI h2.1 h2.2
  have a3 := itoa_sizeI h3.1 h3.2
  have b1 : ch32.size = 1 := rfl
  have b2 : ch46.size = 1 := rfl
  have b3 : ch61.size = 1 := rfl
  have b4 : ch59.size = 1 := rfl
  unfold entTx
  simp only [catS_size0]
  omega
theorem entry_small {x : EntT} (h : entryB x = true) (hs : szBEntry x) : smallE x := by
  unfold entryB tidB at h
  simp only [Bool.and_eq_true, decide_eq_true_eq] at h
  exact ⟨⟨h.1.1, by omega⟩, ⟨h.2.2.2.1.1.1, by omega⟩, ⟨h.2.2.2.1.2.1, by omega⟩, hs.1, hs.2⟩
def logTx (l : List EntT) : ByteArray := l.foldl (fun a x => catS a (entTx x)) (ByteArray.mk (Array.mk []))
theorem logTx_size (l : List EntT) (h : ∀ x ∈ l, smallE x) : ∀ a : ByteArray, (l.foldl (fun a x => catS a (entTx x)) a).size ≤ a.size + 100000000 * l.length := by
  induction l with
  | nil => intro a; simp
  | cons x l ih =>
    intro a
    have h1 := ih (fun y hy => h y (List.mem_cons_of_mem _ hy)) (catS a (entTx x))
    have h2 := entTx_size x (h x (List.mem_cons_self ..))
    rw [List.foldl_cons, List.length_cons]
    rw [catS_size0] at h1
    omega
theorem catS_le {a b : ByteArray} {n : Nat} (h : a.size + b.size ≤ n) : (catS a b).size ≤ n := by rw [catS_size0]; exact h
theorem specText_ev (l : List EntT) (hl : l.length ≤ 80) (hs : ∀ x ∈ l, smallE x) : Ev (fun k => spec_l6Text k l) (logTx l) := by
  refine ev_congr (fun k => spec_l6Text_eq k l) ?_
  have key := drop_ind0 l (fun n rest => Ev (fun k => spec_l6Text_h3 k (logTx (l.take n)) l (l.length : Int) (n : Int)) (logTx l)) ?_ ?_
  · simpa [logTx] using key
  · rw [List.take_length]
    exact ev_last fun k => by rw [spec_l6Text_h3_eq, if_neg (by omega)]
  · intro n x rest hn hx _ ih
    have q0 : (0 : Int) ≤ (n : Int) := by omega
    have q1 : (n : Int) < (l.length : Int) := by omega
    have sx := hs x (List.mem_of_getElem? hx)
    have ee : (entTx x).size ≤ 100000000 := entTx_size x sx
    have ea : (logTx (l.take n)).size ≤ 100000000 * 80 := by
      have := logTx_size (l.take n) (fun y hy => hs y (List.mem_of_mem_take hy)) (ByteArray.mk (Array.mk []))
      have e0 : (ByteArray.mk (Array.mk [])).size = 0 := rfl
      have : (l.take n).length ≤ 80 := by rw [List.length_take]; omega
      unfold logTx
      omega
    rw [take_snoc hx] at ih
    rw [show logTx (l.take n ++ [x]) = catS (logTx (l.take n)) (entTx x) by unfold logTx; rw [List.foldl_append]; rfl] at ih
    obtain ⟨h1, h2, h3, h4, h5⟩ := sx
    have a1 := itoa_sizeI h1.1 h1.2
    have a2 := itoa_sizeI h2.1 h2.2
    have a3 := itoa_sizeI h3.1 h3.2
    have b1 : (ByteArray.mk (Array.mk (List.cons 32 []))).size = 1 := rfl
    have b2 : (ByteArray.mk (Array.mk (List.cons 46 []))).size = 1 := rfl
    have b3 : (ByteArray.mk (Array.mk (List.cons 61 []))).size = 1 := rfl
    have b4 : (ByteArray.mk (Array.mk (List.cons 59 []))).size = 1 := rfl
    refine ev_shift ?_
    simp only [spec_l6Text_h3_eq, rdT_get (e := EntK) hx, wrap_nat (show n < 9223372036854775807 by omega), ev_ite_iff, ev_none_iff, ev_bind_iff (l1NumI_ev h1.1 h1.2), ev_bind_iff (l1NumI_ev h2.1 h2.2), ev_bind_iff (l1NumI_ev h3.1 h3.2), catS_size0]
    rw [if_pos q1, if_pos q0, if_pos q1, if_pos (by omega), if_pos (by omega), if_pos (by omega), if_pos (by omega), if_pos (by omega), if_pos (by omega), if_pos (by omega), if_pos (by omega), if_pos (by omega), if_pos (by omega)]
    exact ih
theorem entText_ev (x : EntT) (h : smallE x) : Ev (fun k => impl_entryText k x) (entTx x) := by
  obtain ⟨h1, h2, h3, h4, h5⟩ := h
  have a1 := itoa_sizeI h1.1 h1.2
  have a2 := itoa_sizeI h2.1 h2.2
  have a3 := itoa_sizeI h3.1 h3.2
  have b1 : (ByteArray.mk (Array.mk (List.cons 32 []))).size = 1 := rfl
  have b2 : (ByteArray.mk (Array.mk (List.cons 46 []))).size = 1 := rfl
  have b3 : (ByteArray.mk (Array.mk (List.cons 61 []))).size = 1 := rfl
  have b4 : (ByteArray.mk (Array.mk (List.cons 59 []))).size = 1 := rfl
  refine ev_congr (fun k => impl_entryText_eq k x) ?_
  have g1 : And ((-9223372036854775808) ≤ x.1) (x.1 ≤ 9223372036854775807) := ⟨by omega, by omega⟩
  have g2 : And ((-9223372036854775808) ≤ x.2.2.2.1) (x.2.2.2.1 ≤ 9223372036854775807) := ⟨by omega, by omega⟩
  have g3 : And ((-9223372036854775808) ≤ x.2.2.2.2.1) (x.2.2.2.2.1 ≤ 9223372036854775807) := ⟨by omega, by omega⟩
  simp only [if_pos g1, if_pos g2, if_pos g3, ev_bind_some_iff, ev_ite_iff, ev_none_iff, ev_some_iff, catS_size0]
  rw [if_pos (by omega), if_pos (by omega), if_pos (by omega), if_pos (by omega), if_pos (by omega), if_pos (by omega), if_pos (by omega), if_pos (by omega), if_pos (by omega)]
  rfl

/-! ### cutlist -/
/-! texts cut at a byte, as lists -/
def cutB (c : UInt8) : List UInt8 → List UInt8 × List UInt8 × Bool
  | [] => ([], [], false)
  | b :: l => if b = c then ([], l, true) else (b :: (cutB c l).1, (cutB c l).2.1, (cutB c l).2.2)
theorem index_cut (c : UInt8) : ∀ l : List UInt8, (Lib.index l [c] = -1 ∧ cutB c l = (l, [], false)) ∨ ∃ a r, l = a ++ c :: r ∧ Lib.index l [c] = (a.length : Int) ∧ cutB c l = (a, r, true)
  | [] => .inl ⟨rfl, rfl⟩
  | b :: l => by
    by_cases h : b = c
    · subst h
      exact .inr ⟨[], l, rfl, by simp [Lib.index, List.isPrefixOf], by simp [cutB]⟩
    · have hp : List.isPrefixOf [c] (b :: l) = false := by simp [List.isPrefixOf, Ne.symm h]
      rcases index_cut c l with ⟨h1, h2⟩ | ⟨a, r, h1, h2, h3⟩
      · refine .inl ⟨?_, by simp [cutB, h, h2]⟩
        rw [Lib.index, if_neg (by rw [hp]; simp), if_pos (by rw [h1]; rfl)]
      · refine .inr ⟨b :: a, r, by rw [h1]; rfl, ?_, by simp [cutB, h, h3]⟩
        rw [Lib.index, if_neg (by rw [hp]; simp), if_neg (by rw [h2]; simp), h2]
        simp
theorem cut_cut (c : UInt8) (l : List UInt8) : Lib.cut l [c] = cutB c l := by
  unfold Lib.cut
  rcases index_cut c l with ⟨h1, h2⟩ | ⟨a, r, h1, h2, h3⟩
  · rw [if_neg (by omega), h2]
  · rw [if_pos (by omega), h3, h2]
    simp only [Int.toNat_natCast, List.length_singleton, h1, Prod.mk.injEq, and_true]
    constructor
    · simp
    · rw [List.drop_append, List.drop_eq_nil_of_le (by omega), show a.length + 1 - a.length = 1 by omega]
      simp
theorem cutB_hit {c : UInt8} : ∀ {a r : List UInt8}, c ∉ a → cutB c (a ++ c :: r) = (a, r, true)
  | [], r, _ => by simp [cutB]
  | b :: a, r, h => by
    have hb : b ≠ c := fun e => h (by simp [e])
    have ha : c ∉ a := fun e => h (by simp [e])
    simp [cutB, hb, cutB_hit (r := r) ha]
theorem cutB_back {c : UInt8} : ∀ {l : List UInt8}, (cutB c l).2.2 = true → l = (cutB c l).1 ++ c :: (cutB c l).2.1
  | [], h => by simp [cutB] at h
  | b :: l, h => by
    by_cases hb : b = c
    · subst hb; simp [cutB]
    · simp only [cutB, if_neg hb] at h ⊢
      rw [List.cons_append, ← cutB_back h]
theorem cutB_len {c : UInt8} : ∀ {l : List UInt8}, (cutB c l).1.length ≤ l.length ∧ (cutB c l).2.1.length ≤ l.length
  | [] => by simp [cutB]
  | b :: l => by
    have := cutB_len (c := c) (l := l)
    by_cases hb : b = c
    · simp [cutB, hb]
    · simp only [cutB, if_neg hb, List.length_cons]; omega
/-! digits -/
theorem dig_nat {n : Nat} (h : n < 10) : (UInt8.ofNat (48 + n)).toNat = 48 + n := by
  have : n = 0 ∨ n = 1 ∨ n = 2 ∨ n = 3 ∨ n = 4 ∨ n = 5 ∨ n = 6 ∨ n = 7 ∨ n = 8 ∨ n = 9 := by omega
  rcases this with rfl | rfl | rfl | rfl | rfl | rfl | rfl | rfl | rfl | rfl <;> rfl
theorem dec_digits : ∀ (n : Nat), ∀ b ∈ Lib.decDigits n, 48 ≤ b.toNat ∧ b.toNat ≤ 57 := by
  intro n
  induction n using Nat.strongRecOn with
  | _ n ih =>
    intro b hb
    by_cases h : n < 10
    · rw [Lib.decDigits_one h] at hb
      obtain rfl := List.mem_singleton.1 hb
      rw [dig_nat h]; omega
    · rw [Lib.decDigits, dif_neg h] at hb
      rcases List.mem_append.1 hb with hb | hb
      · exact ih (n / 10) (by omega) b hb
      · obtain rfl := List.mem_singleton.1 hb
        rw [dig_nat (by omega)]; omega
theorem dec_ne (n : Nat) : Lib.decDigits n ≠ [] := by
  by_cases h : n < 10
  · rw [Lib.decDigits_one h]; simp
  · rw [Lib.decDigits, dif_neg h]; simp
theorem parse_snoc : ∀ (l : List UInt8) (acc u : Nat) (c : UInt8), Lib.parseUint10 acc l = .ok u → 48 ≤ c.toNat → c.toNat ≤ 57 → u * 10 + (c.toNat - 48) < 1000000000000 → Lib.parseUint10 acc (l ++ [c]) = .ok (u * 10 + (c.toNat - 48))
  | [], acc, u, c, h, h1, h2, h3 => by
    simp only [Lib.parseUint10] at h
    injection h with h
    subst h
    simp only [List.nil_append, Lib.parseUint10]
    rw [if_pos ⟨h1, h2⟩, if_neg (by omega), if_neg (by omega)]
  | b :: l, acc, u, c, h, h1, h2, h3 => by
    simp only [Lib.parseUint10, List.cons_append] at h ⊢
    split at h
    · rename_i hb
      rw [if_pos hb]
      split at h
      · cases h
      · rename_i hx
        rw [if_neg hx]
        split at h
        · cases h
        · rename_i hy
          rw [if_neg hy]
          exact parse_snoc l _ u c h h1 h2 h3
    · cases h
theorem parse_dec : ∀ (n : Nat), n < 1000000000 → Lib.parseUint10 0 (Lib.decDigits n) = .ok n := by
  intro n
  induction n using Nat.strongRecOn with
  | _ n ih =>
    intro hn
    by_cases h : n < 10
    · rw [Lib.decDigits_one h]
      simp only [Lib.parseUint10]
      rw [dig_nat h, if_pos (by omega), if_neg (by omega), if_neg (by omega)]
      congr 1; omega
    · rw [Lib.decDigits, dif_neg h]
      have := parse_snoc _ 0 (n / 10) (UInt8.ofNat (48 + n % 10)) (ih (n / 10) (by omega) (by omega)) (by rw [dig_nat (by omega)]; omega) (by rw [dig_nat (by omega)]; omega) (by rw [dig_nat (by omega)]; omega)
      rw [this, dig_nat (by omega)]
      congr 1; omega
theorem atoi_dec (n : Nat) (hn : n < 1000000000) : Lib.atoiAll (Lib.decDigits n) = .ok (n : Int) := by
  have hp := parse_dec n hn
  cases hd : Lib.decDigits n with
  | nil => exact absurd hd (dec_ne n)
  | cons c r =>
    have hc := dec_digits n c (by rw [hd]; simp)
    rw [Lib.atoiAll_plain c r (by omega) (by omega)]
    rw [hd] at hp
    unfold Lib.parseMag
    rw [if_neg (by simp), hp]
    simp only [Lib.signless]
    rw [if_neg (by omega)]

/-! ### mtext -/
theorem mt_ex : ∀ (n : Nat) (acc : ByteArray), acc.size + n ≤ 1099511627776 → ∃ r, Ev (fun k => laws_markText_h4 k (n : Int) acc) r := by
  intro n
  induction n using Nat.strongRecOn with
  | ind n ih =>
    intro acc ha
    by_cases h0 : n = 0
    · subst h0
      refine ⟨catS (ByteArray.mk (Array.mk (List.cons 109 []))) acc, ev_last fun k => ?_⟩
      rw [laws_markText_h4_eq, if_neg (by omega), if_pos (by have : (ByteArray.mk (Array.mk (List.cons 109 []))).size = 1 := rfl; omega)]
    · have hd : Int.tdiv (n : Int) 10 = ((n / 10 : Nat) : Int) := by rw [Int.tdiv_eq_ediv_of_nonneg (by omega)]; omega
      obtain ⟨r, hr⟩ := ih (n / 10) (by omega) (catS (bytesOf [IntKind.wrap .u8 (wrap64 (48 + Int.tmod (n : Int) 10))]) acc) (by
        rw [catS_size0]
        have : (bytesOf [IntKind.wrap .u8 (wrap64 (48 + Int.tmod (n : Int) 10))]).size = 1 := rfl
        omega)
      refine ⟨r, ev_shift ?_⟩
      simp only [laws_markText_h4_eq, ev_ite_iff, hd, wrap_i64 (x := ((n / 10 : Nat) : Int)) (by omega) (by omega)]
      have : (bytesOf [IntKind.wrap .u8 (wrap64 (48 + Int.tmod (n : Int) 10))]).size = 1 := rfl
      rw [if_pos (by omega), if_pos (by omega)]
      exact hr
theorem mark_ex (n : Int) (hn : n ≤ 1073741824) : ∃ r, Ev (fun k => laws_markText k n) r := by
  by_cases h : n ≤ 0
  · exact ⟨_, ev_congr (fun k => laws_markText_eq k n) (ev_if_pos h (ev_some _))⟩
  · obtain ⟨r, hr⟩ := mt_ex n.toNat (ByteArray.mk (Array.mk [])) (by have : (ByteArray.mk (Array.mk [])).size = 0 := rfl; omega)
    refine ⟨r, ev_congr (fun k => laws_markText_eq k n) (ev_if_neg h ?_)⟩
    rw [show ((n.toNat : Nat) : Int) = n by omega] at hr
    exact hr
open Classical in
noncomputable def mtx (n : Int) : ByteArray := if h : ∃ r, Ev (fun k => laws_markText k n) r then Classical.choose h else ByteArray.mk (Array.mk [])
theorem mtx_ev (n : Int) (hn : n ≤ 1073741824) : Ev (fun k => laws_markText k n) (mtx n) := by
  have h := mark_ex n hn
  unfold mtx
  rw [dif_pos h]
  exact Classical.choose_spec h

/-! ### markentry -/
noncomputable def emEntry (m : Int) : EntT := (m, mtx (m + 1), mtx (m + 2), m + 3, m + 4, decide (Int.tmod (m + 5) 3 = 0))
theorem upEntry {xs : List EntT} {n : Nat} {x : EntT} (hx : xs[n]? = some x) (v0 : Int) (v1 v2 : ByteArray) (v3 v4 : Int) (v5 : Bool) :
    upAt EntK [3, 2] .bool v5 (upAt EntK [3, 1] (.int .i64) v4 (upAt EntK [3, 0] (.int .i64) v3 (upAt EntK [2] .str v2 (upAt EntK [1] .str v1 (upAt EntK [0] (.int .i64) v0 xs (n : Int)) (n : Int)) (n : Int)) (n : Int)) (n : Int)) (n : Int)
      = xs.set n (v0, v1, v2, v3, v4, v5) := by
  have hn : n < xs.length := (List.getElem?_eq_some_iff.1 hx).1
  rw [upAt_get (e := EntK) (k := .int .i64) (w := (v0, x.2)) hx rfl, upAt_set (e := EntK) (k := .str) (w := (v0, v1, x.2.2)) hn rfl, upAt_set (e := EntK) (k := .str) (w := (v0, v1, v2, x.2.2.2)) hn rfl, upAt_set (e := EntK) (k := .int .i64) (w := (v0, v1, v2, v3, x.2.2.2.2)) hn rfl, upAt_set (e := EntK) (k := .int .i64) (w := (v0, v1, v2, v3, v4, x.2.2.2.2.2)) hn rfl, upAt_set (e := EntK) (k := .bool) (w := (v0, v1, v2, v3, v4, v5)) hn rfl]
theorem upLenEntry (p : List Nat) (k : Kind) (y : k.T) (l : List EntT) (i : Int) : @List.length EntT (upAt EntK p k y l i) = @List.length EntT l := upAt_len (e := EntK)
theorem incs6 (c : Int) (h0 : 0 ≤ c) (h1 : c ≤ 1073741824) : wrap64 (c + 1) = c + 1 ∧ wrap64 (c + 1 + 1) = c + 2 ∧ wrap64 (c + 2 + 1) = c + 3 ∧ wrap64 (c + 3 + 1) = c + 4 ∧ wrap64 (c + 4 + 1) = c + 5 ∧ wrap64 (c + 5 + 1) = c + 6 := by
  refine ⟨?_, ?_, ?_, ?_, ?_, ?_⟩ <;> (rw [wrap_of (by omega) (by omega)]; try omega)
theorem markEntryS_ev (l : List EntT) (m : Int) (h0 : 0 ≤ m) (hm : m + 6 * l.length ≤ 1073741824) : Ev (fun k => laws_markEntryS k l m) (mkList emEntry m 6 l.length, m + 6 * (l.length : Int)) := by
  refine ev_congr (fun k => laws_markEntryS_eq k l m) ?_
  refine mark_loop (fun k l c i => laws_markEntryS_h2 k l c i) emEntry m 6 l.length (fun k xs c hx => ?_) (fun n xs r hn hx H => ?_) l rfl
  · rw [laws_markEntryS_h2_eq, if_neg (by omega)]
  · obtain ⟨e1, e2, e3, e4, e5, e6⟩ := incs6 (m + 6 * (n : Int)) (by omega) (by omega)
    have hnx : n < xs.length := by omega
    have hg : xs[n]? = some xs[n] := List.getElem?_eq_getElem hnx
    generalize xs[n] = x at hg
    have d1 : (n : Int) < (l.length : Int) := by omega
    have d2 : (n : Int) < (xs.length : Int) := by omega
    have d3 : (0 : Int) ≤ (n : Int) := by omega
    have e10 : m + 6 * (n : Int) + 6 = m + 6 * ((n + 1 : Nat) : Int) := by omega
    refine ev_shift ?_
    simp only [laws_markEntryS_h2_eq, ev_ite_iff, e1, e2, e3, e4, e5, e6, wrap_nat (show n < 9223372036854775807 by omega), upLenEntry, if_pos d2, if_pos d3, ev_bind_iff (mtx_ev (m + 6 * (n : Int) + 1) (by omega)), ev_bind_iff (mtx_ev (m + 6 * (n : Int) + 2) (by omega)), upEntry hg, e10]
    exact H

/-! ### heldentry -/
theorem heldEntryS_ev (m : Int) (N : Nat) (h0 : 0 ≤ m) (hm : m + 6 * N ≤ 1073741824) : Ev (fun k => laws_heldEntryS k (mkList emEntry m 6 N) m) (m + 6 * (N : Int)) := by
  refine ev_congr (fun k => laws_heldEntryS_eq k _ m) ?_
  have hl := mkList_len emEntry m 6 N
  refine held_loop (fun k c i => laws_heldEntryS_h2 k (mkList emEntry m 6 N) c i) emEntry m 6 N (fun k c => ?_) (fun n r hn hx H => ?_)
  · rw [laws_heldEntryS_h2_eq, if_neg (by omega)]
  · obtain ⟨e1, e2, e3, e4, e5, e6⟩ := incs6 (m + 6 * (n : Int)) (by omega) (by omega)
    have d1 : (n : Int) < ((mkList emEntry m 6 N).length : Int) := by omega
    have d3 : (0 : Int) ≤ (n : Int) := by omega
    have e10 : m + 6 * (n : Int) + 6 = m + 6 * ((n + 1 : Nat) : Int) := by omega
    refine ev_shift ?_
    simp only [laws_heldEntryS_h2_eq, ev_ite_iff, ev_some_iff, ev_none_iff, e1, e2, e3, e4, e5, e6, wrap_nat (show n < 9223372036854775807 by omega), rdT_get (e := EntK) hx, if_pos d1, if_pos d3, ev_bind_iff (mtx_ev (m + 6 * (n : Int) + 1) (by omega)), ev_bind_iff (mtx_ev (m + 6 * (n : Int) + 2) (by omega)), emEntry, e10]
    simpa using H

/-! ### readlog -/
/-! a log's text, read -/
def mkT (l : List UInt8) : ByteArray := ⟨l.toArray⟩
theorem mkT_list (l : List UInt8) : (mkT l).data.toList = l := by simp [mkT]
theorem mkT_eta (s : ByteArray) : mkT s.data.toList = s := Go.WideShapes.bytes_inj (mkT_list _)
theorem mkT_size (l : List UInt8) : (mkT l).size = l.length := by rw [size_len, mkT_list]
theorem mkT_of {s : ByteArray} {l : List UInt8} (h : s.data.toList = l) : s = mkT l := by rw [← h, mkT_eta]
theorem ext_list (s : ByteArray) (i j : Nat) : (s.extract i j).data.toList = (s.data.toList.drop i).take (j - i) := by simp [ByteArray.data_extract]
def cutT (c : UInt8) (s : ByteArray) : ByteArray × ByteArray × Bool := (mkT (cutB c s.data.toList).1, mkT (cutB c s.data.toList).2.1, (cutB c s.data.toList).2.2)
theorem gvCut_eq (s : ByteArray) (c : UInt8) : gvCut s (ByteArray.mk (Array.mk (List.cons c []))) = cutT c s := by
  unfold gvCut cutT
  rw [show (ByteArray.mk (Array.mk (List.cons c []))).data.toList = [c] from rfl, cut_cut]
  rfl
theorem cutT_size (c : UInt8) (s : ByteArray) : (cutT c s).1.size ≤ s.size ∧ (cutT c s).2.1.size ≤ s.size := by
  have := cutB_len (c := c) (l := s.data.toList)
  rw [← size_len] at this
  unfold cutT
  simp only [mkT_size]
  exact this
theorem l6Cut_ev (s : ByteArray) (c : UInt8) (hs : s.size ≤ 140737488355328) : Ev (fun k => spec_l6Cut k s (c.toNat : Int)) (cutT c s) := by
  have hl := size_len s
  have key : ∀ (rest : List UInt8) (n : Nat), s.data.toList.drop n = rest → n + rest.length = s.size →
      Ev (fun k => spec_l6Cut_h2 k s (c.toNat : Int) (n : Int)) (mkT (s.data.toList.take n ++ (cutB c rest).1), mkT (cutB c rest).2.1, (cutB c rest).2.2) := by
    intro rest
    induction rest with
    | nil =>
      intro n hd hlen
      simp at hlen
      refine ev_last fun k => ?_
      rw [spec_l6Cut_h2_eq, if_neg (by omega)]
      simp only [cutB, List.append_nil]
      rw [List.take_of_length_le (by omega), mkT_eta]
      rfl
    | cons b rest ih =>
      intro n hd hlen
      simp only [List.length_cons] at hlen
      have hx : s.data.toList[n]? = some b := by
        have := congrArg (fun z : List UInt8 => z[0]?) hd
        simpa only [List.getElem?_drop, Nat.add_zero, List.getElem?_cons_zero] using this
      have e0 : (0 : Int) ≤ (n : Int) := by omega
      have e1 : (n : Int) < (s.size : Int) := by omega
      refine ev_shift ?_
      simp only [spec_l6Cut_h2_eq, bt_nat hx, wrap_nat (show n < 9223372036854775807 by omega), ev_ite_iff, ev_some_iff, ev_none_iff]
      rw [if_pos e1, if_pos e0, if_pos e1]
      by_cases hb : b = c
      · subst hb
        rw [if_pos rfl, if_pos e0, if_pos (by omega), if_pos (by omega), if_pos (by omega)]
        simp only [cutB, if_true, List.append_nil, Prod.mk.injEq, and_true]
        constructor
        · exact Go.WideShapes.bytes_inj (by rw [mkT_list, ext_list]; simp)
        · refine Go.WideShapes.bytes_inj ?_
          rw [mkT_list, ext_list, show Int.toNat (((n + 1 : Nat) : Int)) = n + 1 by omega, drop_next hd, List.take_of_length_le (by simp; omega)]
      · rw [if_neg (fun h => hb (UInt8.toNat_inj.1 (by omega)))]
        have := ih (n + 1) (drop_next hd) (by omega)
        rw [take_snoc hx] at this
        simpa [cutB, hb] using this
  have := key s.data.toList 0 rfl (by omega)
  exact ev_congr (fun k => spec_l6Cut_eq k s _) (by simpa [cutT] using this)
/-! numbers -/
def numL : List UInt8 → Int → Int
  | [], n => n
  | b :: l, n => if 48 ≤ b.toNat ∧ b.toNat ≤ 57 then numL l (10 * n + ((b.toNat : Int) - 48)) else -1
def numB (l : List UInt8) : Int := if 1 ≤ l.length ∧ l.length ≤ 9 then (if l.head? = some 48 ∧ 1 < l.length then -1 else numL l 0) else -1
theorem wrap_u8 {x : Int} (h0 : 0 ≤ x) (h1 : x < 256) : wrapK .u8 x = x := by
  unfold wrapK
  rw [if_neg (by decide)]
  simp only [IntKind.wrap, IntKind.bits, IntKind.signed, BitVec.toInt, BitVec.toNat_ofInt]
  simp
  omega
theorem l6Number_ev (s : ByteArray) : Ev (fun k => spec_l6Number k s) (numB s.data.toList) := by
  have hl := size_len s
  have key : ∀ (rest : List UInt8) (n : Nat) (acc : Int), s.size ≤ 9 → s.data.toList.drop n = rest → n + rest.length = s.size → 0 ≤ acc → acc < 10 ^ n →
      Ev (fun k => spec_l6Number_h5 k s acc (n : Int)) (numL rest acc) := by
    intro rest
    induction rest with
    | nil =>
      intro n acc h9 hd hlen _ _
      simp at hlen
      exact ev_last fun k => by rw [spec_l6Number_h5_eq, if_neg (by omega)]; rfl
    | cons b rest ih =>
      intro n acc h9 hd hlen ha hb
      simp only [List.length_cons] at hlen
      have hx : s.data.toList[n]? = some b := by
        have := congrArg (fun z : List UInt8 => z[0]?) hd
        simpa only [List.getElem?_drop, Nat.add_zero, List.getElem?_cons_zero] using this
      have e0 : (0 : Int) ≤ (n : Int) := by omega
      have e1 : (n : Int) < (s.size : Int) := by omega
      have hp : (10 : Int) ^ n ≤ 10 ^ 8 := by
        have : (10 : Nat) ^ n ≤ 10 ^ 8 := Nat.pow_le_pow_right (by omega) (by omega)
        exact_mod_cast this
      have hp' : (10 : Int) ^ n ≤ 100000000 := hp
      have hps : (10 : Int) ^ (n + 1) = 10 * 10 ^ n := by rw [Int.pow_succ]; omega
      refine ev_shift ?_
      simp only [spec_l6Number_h5_eq, bt_nat hx, wrap_nat (show n < 9223372036854775807 by omega), ev_ite_iff, ev_some_iff, ev_none_iff]
      rw [if_pos e1, if_pos e0, if_pos e1]
      simp only [numL]
      by_cases h1 : (b.toNat : Int) < 48
      · rw [if_pos h1, if_neg (by omega)]
      · rw [if_neg h1, if_pos e0, if_pos e1]
        by_cases h2 : (57 : Int) < (b.toNat : Int)
        · rw [if_pos h2, if_neg (by omega)]
        · rw [if_neg h2, if_pos e0, if_pos e1, if_pos (by omega), wrap_u8 (by omega) (by omega), wrap_i64 (by omega) (by omega), wrap_of (x := 10 * acc) (by omega) (by omega), wrap_of (by omega) (by omega)]
          exact ih (n + 1) _ h9 (drop_next hd) (by omega) (by omega) (by omega)
  refine ev_congr (fun k => spec_l6Number_eq k s) ?_
  simp only [ev_bind_iff (l1In_ev _ _ _), ev_ite_iff, ev_some_iff, ev_none_iff]
  unfold numB
  by_cases h : 1 ≤ s.data.toList.length ∧ s.data.toList.length ≤ 9
  · rw [if_pos h, if_neg (by rw [decide_eq_true (by omega)]; simp), if_pos (by omega)]
    obtain ⟨b, hb⟩ : ∃ b, s.data.toList[0]? = some b := ⟨s.data.toList[0], List.getElem?_eq_getElem (by omega)⟩
    have hb0 := bt_nat hb
    have hh : s.data.toList.head? = some b := by rw [List.head?_eq_getElem?]; exact hb
    have hb0 : bt s 0 = (b.toNat : Int) := hb0
    have k0 := key s.data.toList 0 0 (by omega) rfl (by omega) (by omega) (by simp)
    rw [hb0, hh]
    by_cases h48 : b = 48
    · subst h48
      rw [if_pos (show (((48 : UInt8).toNat : Nat) : Int) = 48 from rfl)]
      by_cases h1 : (1 : Int) < (s.size : Int)
      · rw [if_pos h1, if_pos ⟨rfl, by omega⟩]
      · rw [if_neg h1, if_neg (fun hc => by have := hc.2; omega)]
        exact k0
    · rw [if_neg (fun hc => h48 (UInt8.toNat_inj.1 (by have : (48 : UInt8).toNat = 48 := rfl; omega))), if_neg (fun hc => h48 (Option.some.inj hc.1))]
      exact k0
  · rw [if_neg h, if_pos (by rw [decide_eq_false (by omega)]; simp)]
theorem numL_snoc : ∀ (l : List UInt8) (acc : Int) (c : UInt8), (∀ b ∈ l, 48 ≤ b.toNat ∧ b.toNat ≤ 57) → 48 ≤ c.toNat ∧ c.toNat ≤ 57 → numL (l ++ [c]) acc = 10 * numL l acc + ((c.toNat : Int) - 48)
  | [], acc, c, _, hc => by simp [numL, hc]
  | b :: l, acc, c, h, hc => by
    have hb := h b (by simp)
    simp only [List.cons_append, numL, if_pos hb]
    exact numL_snoc l _ c (fun x hx => h x (by simp [hx])) hc
theorem numL_dec : ∀ n : Nat, numL (Lib.decDigits n) 0 = (n : Int) := by
  intro n
  induction n using Nat.strongRecOn with
  | _ n ih =>
    by_cases h : n < 10
    · rw [Lib.decDigits_one h]
      simp only [numL, dig_nat h]
      rw [if_pos (by omega)]; omega
    · rw [Lib.decDigits, dif_neg h, numL_snoc _ _ _ (dec_digits _) (by rw [dig_nat (by omega)]; omega), ih (n / 10) (by omega), dig_nat (by omega)]
      omega
theorem dec_len : ∀ (d n : Nat), n < 10 ^ (d + 1) → (Lib.decDigits n).length ≤ d + 1
  | 0, n, h => by rw [Lib.decDigits_one (by simpa using h)]; simp
  | d + 1, n, h => by
    by_cases h10 : n < 10
    · rw [Lib.decDigits_one h10]; simp
    · rw [Lib.decDigits, dif_neg h10, List.length_append]
      have := dec_len d (n / 10) (by rw [Nat.pow_succ] at h; omega)
      simp; omega
theorem dec_head : ∀ n : Nat, n ≠ 0 → (Lib.decDigits n).head? ≠ some 48 := by
  intro n
  induction n using Nat.strongRecOn with
  | _ n ih =>
    intro hn
    by_cases h : n < 10
    · rw [Lib.decDigits_one h]
      intro hc
      have hc : UInt8.ofNat (48 + n) = 48 := by simpa using hc
      have := congrArg UInt8.toNat hc
      rw [dig_nat h] at this
      have e : (48 : UInt8).toNat = 48 := rfl
      omega
    · rw [Lib.decDigits, dif_neg h, List.head?_append]
      have := ih (n / 10) (by omega) (by omega)
      cases hd : Lib.decDigits (n / 10) with
      | nil => exact absurd hd (dec_ne _)
      | cons c r => rw [hd] at this; simpa using this
theorem numB_dec (n : Nat) (hn : n < 1000000000) : numB (Lib.decDigits n) = (n : Int) := by
  unfold numB
  have h1 := dec_len 8 n hn
  have h0 : 1 ≤ (Lib.decDigits n).length := by
    have := dec_ne n
    cases h : Lib.decDigits n with
    | nil => exact absurd h this
    | cons c r => simp
  rw [if_pos ⟨h0, h1⟩, if_neg, numL_dec]
  rintro ⟨h2, h3⟩
  by_cases hz : n = 0
  · subst hz
    rw [Lib.decDigits_one (by omega)] at h3
    simp at h3
  · exact dec_head n hz h2
/-! a text split -/
def sp1 : ByteArray := ByteArray.mk (Array.mk (List.cons 32 []))
theorem index_hit {c : UInt8} {s : ByteArray} {a r : List UInt8} (h : cutB c s.data.toList = (a, r, true)) : Lib.index s.data.toList [c] = (a.length : Int) ∧ s.data.toList = a ++ c :: r := by
  rcases index_cut c s.data.toList with ⟨_, h2⟩ | ⟨a', r', h1, h2, h3⟩
  · rw [h2] at h; simp at h
  · rw [h3] at h
    simp only [Prod.mk.injEq, and_true] at h
    obtain ⟨rfl, rfl⟩ := h
    exact ⟨h2, h1⟩
theorem split_hit (k : Nat) {s : ByteArray} {a r : List UInt8} (h : cutB 32 s.data.toList = (a, r, true)) : Lib.splitB sp1 0 (k + 1) s = mkT a :: Lib.splitB sp1 0 k (mkT r) := by
  obtain ⟨h1, h2⟩ := index_hit h
  have hl := size_len s
  have hlen := congrArg List.length h2
  simp only [List.length_append, List.length_cons] at hlen
  rw [Lib.splitB_hit sp1 0 k s a.length h1]
  congr 1
  · refine Go.WideShapes.bytes_inj ?_
    rw [ext_list, mkT_list, h2]; simp
  · congr 1
    refine Go.WideShapes.bytes_inj ?_
    rw [ext_list, mkT_list, show sp1.size = 1 from rfl, h2, List.drop_append, List.drop_eq_nil_of_le (by omega), show a.length + 1 - a.length = 1 by omega]
    simp only [List.nil_append, List.drop_succ_cons, List.drop_zero]
    exact List.take_of_length_le (by omega)
theorem split_sizes : ∀ (k : Nat) (s : ByteArray), ∀ x ∈ Lib.splitB sp1 0 k s, x.size ≤ s.size
  | 0, s, x, hx => by
    rw [Lib.splitB_zero] at hx
    obtain rfl := List.mem_singleton.1 hx
    exact Nat.le_refl _
  | k + 1, s, x, hx => by
    have hcl := cutB_len (c := 32) (l := s.data.toList)
    rw [← size_len] at hcl
    rcases index_cut 32 s.data.toList with ⟨h1, _⟩ | ⟨a, r, h1, h2, h3⟩
    · rw [Lib.splitB_miss sp1 0 _ s h1] at hx
      obtain rfl := List.mem_singleton.1 hx
      exact Nat.le_refl _
    · rw [split_hit k h3] at hx
      rw [h3] at hcl
      rcases List.mem_cons.1 hx with rfl | hx
      · rw [mkT_size]; exact hcl.1
      · have := split_sizes k (mkT r) x hx
        rw [mkT_size] at this
        exact Nat.le_trans this hcl.2
theorem splitN_sizes (s : ByteArray) (n : Int) : ∀ x ∈ gvSplitN s sp1 n, x.size ≤ s.size := split_sizes _ s
theorem rdStr_size {l : List ByteArray} {m : Nat} (h : ∀ x ∈ l, x.size ≤ m) (i : Int) : (rdT .str l i).size ≤ m := by
  unfold rdT
  rw [List.getD_eq_getElem?_getD]
  cases hg : l[i.toNat]? with
  | none => exact Nat.zero_le _
  | some x => exact h x (List.mem_of_getElem? hg)
/-! the program's way -/
def zeroE : EntT := ((0 : Int), ((ByteArray.mk (Array.mk ([]))), ((ByteArray.mk (Array.mk ([]))), ((0 : Int), ((0 : Int), false)))))
noncomputable def readE (w : List ByteArray) : EntT := ((gvAtoi (rdT .str w 0)).1, ((cutT 61 (rdT .str w 2)).1, ((cutT 61 (rdT .str w 2)).2.1, ((gvAtoi (cutT 46 (rdT .str w 1)).1).1, ((gvAtoi (cutT 46 (rdT .str w 1)).2.1).1, false)))))
noncomputable def readB (w : List ByteArray) : Bool := (gvAtoi (rdT .str w 0)).2 || ((gvAtoi (cutT 46 (rdT .str w 1)).1).2 || (gvAtoi (cutT 46 (rdT .str w 1)).2.1).2)
noncomputable def readI (s : ByteArray) : EntT × Bool := if (gvSplitN s sp1 3).length = 3 ∧ readB (gvSplitN s sp1 3) = false ∧ entryB (readE (gvSplitN s sp1 3)) = true ∧ entTx (readE (gvSplitN s sp1 3)) = catS s ch59 then (readE (gvSplitN s sp1 3), true) else (zeroE, false)
theorem readE_sz (s : ByteArray) (hs : s.size ≤ 1048576) : szBEntry (readE (gvSplitN s sp1 3)) := by
  have h2 := rdStr_size (splitN_sizes s 3) 2
  have := cutT_size 61 (rdT .str (gvSplitN s sp1 3) 2)
  exact ⟨Nat.le_trans this.1 (Nat.le_trans h2 hs), Nat.le_trans this.2 (Nat.le_trans h2 hs)⟩
theorem readEntry_ev (s : ByteArray) (hs : s.size ≤ 1048576) : Ev (fun k => impl_readEntry k s) (readI s) := by
  have hsz := readE_sz s hs
  have z0 := rdStr_size (splitN_sizes s 3) 0
  have z1 := rdStr_size (splitN_sizes s 3) 1
  have z2 := rdStr_size (splitN_sizes s 3) 2
  have c1 := cutT_size 46 (rdT .str (gvSplitN s sp1 3) 1)
  refine ev_congr (fun k => impl_readEntry_eq k s) ?_
  refine ev_bind (a := gvSplitN s sp1 3) (ev_if_pos ⟨by omega, by decide, by decide, by decide⟩ (ev_some _)) ?_
  by_cases h3 : (gvSplitN s sp1 3).length = 3
  rotate_left 1
  · have hv : readI s = (zeroE, false) := if_neg (fun h => h3 h.1)
    rw [hv]
    exact ev_if_pos (by omega) (ev_some _)
  refine ev_if_neg (by omega) (ev_if_pos (by omega) ?_)
  refine ev_bind (a := cutT 46 (rdT .str (gvSplitN s sp1 3) 1)) (ev_if_pos (by omega) (by rw [gvCut_eq]; exact ev_some _)) (ev_if_pos (by omega) ?_)
  refine ev_bind (a := gvAtoi (rdT .str (gvSplitN s sp1 3) 0)) (ev_if_pos (by omega) (ev_some _)) ?_
  refine ev_bind (a := gvAtoi (cutT 46 (rdT .str (gvSplitN s sp1 3) 1)).1) (ev_if_pos (by omega) (ev_some _)) ?_
  refine ev_bind (a := gvAtoi (cutT 46 (rdT .str (gvSplitN s sp1 3) 1)).2.1) (ev_if_pos (by omega) (ev_some _)) (ev_if_pos (by omega) ?_)
  refine ev_bind (a := cutT 61 (rdT .str (gvSplitN s sp1 3) 2)) (ev_if_pos (by omega) (by rw [gvCut_eq]; exact ev_some _)) ?_
  by_cases hr : readB (gvSplitN s sp1 3) = false
  rotate_left 1
  · have hv : readI s = (zeroE, false) := if_neg (fun h => hr h.2.1)
    rw [hv]
    have hr : readB (gvSplitN s sp1 3) = true := by simpa using hr
    unfold readB at hr
    simp only [Bool.or_eq_true] at hr
    by_cases a1 : (gvAtoi (rdT .str (gvSplitN s sp1 3) 0)).2 = true
    · exact ev_if_pos a1 (ev_some _)
    refine ev_if_neg a1 ?_
    by_cases a2 : (gvAtoi (cutT 46 (rdT .str (gvSplitN s sp1 3) 1)).1).2 = true
    · exact ev_if_pos a2 (ev_some _)
    refine ev_if_neg a2 (ev_if_pos ?_ (ev_some _))
    rcases hr with h | h | h
    · exact absurd h a1
    · exact absurd h a2
    · exact h
  have hr' := hr
  unfold readB at hr'
  simp only [Bool.or_eq_false_iff] at hr'
  refine ev_if_neg (by rw [hr'.1]; simp) (ev_if_neg (by rw [hr'.2.1]; simp) (ev_if_neg (by rw [hr'.2.2]; simp) ?_))
  refine ev_bind (a := entryB (readE (gvSplitN s sp1 3))) (isEntry_ev _ hsz) ?_
  cases he : entryB (readE (gvSplitN s sp1 3)) with
  | false =>
    have hv : readI s = (zeroE, false) := if_neg (fun h => by rw [he] at h; cases h.2.2.1)
    rw [hv]
    exact ev_if_pos (by simp) (ev_some _)
  | true =>
    refine ev_if_neg (by simp) (ev_bind (a := entTx (readE (gvSplitN s sp1 3))) (entText_ev _ (entry_small he hsz)) (ev_if_pos ?_ ?_))
    · have : ch59.size = 1 := rfl
      show s.size + ch59.size ≤ _
      omega
    · by_cases ht : entTx (readE (gvSplitN s sp1 3)) = catS s ch59
      · have hv : readI s = (readE (gvSplitN s sp1 3), true) := if_pos ⟨h3, hr, he, ht⟩
        rw [hv]
        exact ev_if_neg (fun h => h ht) (ev_some _)
      · have hv : readI s = (zeroE, false) := if_neg (fun h => ht h.2.2.2)
        rw [hv]
        exact ev_if_pos ht (ev_some _)

/-! ### readlog2 -/
def emp : ByteArray := ByteArray.mk (Array.mk ([]))
theorem cutB_lt {c : UInt8} {l : List UInt8} (h : (cutB c l).2.2 = true) : (cutB c l).2.1.length < l.length := by
  have := congrArg List.length (cutB_back h)
  simp only [List.length_append, List.length_cons] at this
  omega
theorem cutT_lt {c : UInt8} {s : ByteArray} (h : (cutT c s).2.2 = true) : (cutT c s).2.1.size < s.size := by
  have := cutB_lt (c := c) (l := s.data.toList) h
  rw [← size_len] at this
  unfold cutT
  rw [mkT_size]
  exact this
noncomputable def runI : Nat → ByteArray → List EntT → List EntT × Bool
  | 0, _, _ => ([], false)
  | d + 1, s, out => if s = emp then (if logB out = true then (out, true) else ([], false))
      else if (cutT 59 s).2.2 = true ∧ (readI (cutT 59 s).1).2 = true ∧ out.length ≠ 80 then runI d (cutT 59 s).2.1 (out ++ [(readI (cutT 59 s).1).1]) else ([], false)
theorem readI_sz (s : ByteArray) (hs : s.size ≤ 1048576) : szBEntry (readI s).1 := by
  unfold readI
  split
  · exact readE_sz s hs
  · exact ⟨Nat.zero_le _, Nat.zero_le _⟩
theorem implRun_ev : ∀ (d : Nat) (s : ByteArray) (out : List EntT), s.size < d → s.size ≤ 1048576 → out.length ≤ 80 → (∀ x ∈ out, szBEntry x) → Ev (fun k => impl_ReadLog_h2 k s out) (runI d s out)
  | 0, s, out, hd, _, _, _ => by omega
  | d + 1, s, out, hd, hs, hl, hz => by
    refine ev_shift (ev_congr (fun k => impl_ReadLog_h2_eq k s out) ?_)
    by_cases he : s = emp
    · refine ev_if_neg (fun h => h he) (ev_bind (implLog_ev out (by omega) hz) ?_)
      simp only [runI, if_pos he]
      cases hb : logB out with
      | false => exact ev_if_pos (by simp) (by simpa using ev_some _)
      | true => exact ev_if_neg (by simp) (by simpa using ev_some _)
    · have cs := cutT_size 59 s
      refine ev_if_pos he (ev_bind (a := cutT 59 s) (ev_if_pos (by omega) (by rw [gvCut_eq]; exact ev_some _)) (ev_bind (readEntry_ev (cutT 59 s).1 (by omega)) ?_))
      simp only [runI, if_neg he]
      by_cases h1 : (cutT 59 s).2.2 = true
      rotate_left 1
      · rw [if_neg (fun h : (cutT 59 s).2.2 = true ∧ (readI (cutT 59 s).1).2 = true ∧ out.length ≠ 80 => h1 h.1)]
        exact ev_if_pos (by simpa using h1) (ev_some _)
      refine ev_if_neg (by simp [h1]) ?_
      by_cases h2 : (readI (cutT 59 s).1).2 = true
      rotate_left 1
      · rw [if_neg (fun h : (cutT 59 s).2.2 = true ∧ (readI (cutT 59 s).1).2 = true ∧ out.length ≠ 80 => h2 h.2.1)]
        exact ev_if_pos (by simpa using h2) (ev_some _)
      refine ev_if_neg (by simp [h2]) ?_
      by_cases h3 : out.length = 80
      · rw [if_neg (fun h : (cutT 59 s).2.2 = true ∧ (readI (cutT 59 s).1).2 = true ∧ out.length ≠ 80 => h.2.2 h3)]
        exact ev_if_pos (by omega) (ev_some _)
      · rw [if_pos (show (cutT 59 s).2.2 = true ∧ (readI (cutT 59 s).1).2 = true ∧ out.length ≠ 80 from ⟨h1, h2, h3⟩)]
        have hlt := cutT_lt h1
        refine ev_if_neg (by omega) (ev_if_pos (by simp only [List.length_cons, List.length_nil]; omega) ?_)
        refine implRun_ev d (cutT 59 s).2.1 _ (by omega) (by omega) (by simp; omega) fun x hx => ?_
        rcases List.mem_append.1 hx with hx | hx
        · exact hz x hx
        · obtain rfl := List.mem_singleton.1 hx
          exact readI_sz _ (by omega)
/-! the reference's way -/
def parseS (x : ByteArray) : EntT × Bool :=
  ((numB (cutT 32 x).1.data.toList, ((cutT 61 (cutT 32 (cutT 32 x).2.1).2.1).1, ((cutT 61 (cutT 32 (cutT 32 x).2.1).2.1).2.1, (numB (cutT 46 (cutT 32 (cutT 32 x).2.1).1).1.data.toList, (numB (cutT 46 (cutT 32 (cutT 32 x).2.1).1).2.1.data.toList, false))))),
    (cutT 32 x).2.2 && ((cutT 32 (cutT 32 x).2.1).2.2 && ((cutT 46 (cutT 32 (cutT 32 x).2.1).1).2.2 && (cutT 61 (cutT 32 (cutT 32 x).2.1).2.1).2.2)))
theorem parseS_sz (x : ByteArray) (hs : x.size ≤ 1048576) : szBEntry (parseS x).1 := by
  have a1 := cutT_size 32 x
  have a2 := cutT_size 32 (cutT 32 x).2.1
  have a3 := cutT_size 61 (cutT 32 (cutT 32 x).2.1).2.1
  exact ⟨by show (cutT 61 (cutT 32 (cutT 32 x).2.1).2.1).1.size ≤ _; omega, by show (cutT 61 (cutT 32 (cutT 32 x).2.1).2.1).2.1.size ≤ _; omega⟩
noncomputable def finS (s0 : ByteArray) (out : List EntT) : List EntT × Bool := if logB out = true ∧ logTx out = s0 then (out, true) else ([], false)
noncomputable def runS (s0 : ByteArray) : Nat → ByteArray → List EntT → List EntT × Bool
  | 0, _, _ => ([], false)
  | d + 1, s, out => if s = emp ∨ 80 < out.length then finS s0 out
      else if (cutT 59 s).2.2 = true ∧ (parseS (cutT 59 s).1).2 = true then runS s0 d (cutT 59 s).2.1 (out ++ [(parseS (cutT 59 s).1).1]) else ([], false)
theorem fin_ev (s0 : ByteArray) (out : List EntT) (hl : out.length ≤ 81) (hz : ∀ x ∈ out, szBEntry x) :
    Ev (fun k => Option.bind (spec_GoodLog k out) fun t0 => if ((not t0) = true) then some ([], false) else Option.bind (spec_l6Text k out) fun t1 => if (¬ (t1 = s0)) then some ([], false) else some (out, true)) (finS s0 out) := by
  refine ev_bind (specLog_ev out (by omega) hz) ?_
  unfold finS
  cases hb : logB out with
  | false => exact ev_if_pos (by simp) (by simpa using ev_some _)
  | true =>
    obtain ⟨h1, h2⟩ := log_all hb
    refine ev_if_neg (by simp) (ev_bind (specText_ev out h2 fun x hx => entry_small (h1 x hx) (hz x hx)) ?_)
    by_cases ht : logTx out = s0
    · rw [if_pos (show true = true ∧ logTx out = s0 from ⟨rfl, ht⟩)]
      exact ev_if_neg (fun h => h ht) (ev_some _)
    · rw [if_neg (fun h : true = true ∧ logTx out = s0 => ht h.2)]
      exact ev_if_pos ht (ev_some _)
theorem specRun_ev (s0 : ByteArray) : ∀ (d : Nat) (s : ByteArray) (out : List EntT), s.size < d → s.size ≤ 1048576 → out.length ≤ 81 → (∀ x ∈ out, szBEntry x) → Ev (fun k => spec_ReadLog_h3 k s0 out s) (runS s0 d s out)
  | 0, s, out, hd, _, _, _ => by omega
  | d + 1, s, out, hd, hs, hl, hz => by
    refine ev_shift (ev_congr (fun k => spec_ReadLog_h3_eq k s0 out s) ?_)
    have hf := fin_ev s0 out hl hz
    by_cases he : s = emp
    · simp only [runS, if_pos (show s = emp ∨ 80 < out.length from .inl he)]
      exact ev_if_neg (fun h => h he) hf
    refine ev_if_pos he ?_
    by_cases h80 : 80 < out.length
    · simp only [runS, if_pos (show s = emp ∨ 80 < out.length from .inr h80)]
      exact ev_if_neg (by omega) hf
    refine ev_if_pos (by omega) ?_
    simp only [runS, if_neg (fun h : s = emp ∨ 80 < out.length => h.elim he h80)]
    have a0 := cutT_size 59 s
    have a1 := cutT_size 32 (cutT 59 s).1
    have a2 := cutT_size 32 (cutT 32 (cutT 59 s).1).2.1
    refine ev_bind (l6Cut_ev s 59 (by omega)) (ev_bind (l6Cut_ev (cutT 59 s).1 32 (by omega)) (ev_bind (l6Cut_ev (cutT 32 (cutT 59 s).1).2.1 32 (by omega)) (ev_bind (l6Cut_ev (cutT 32 (cutT 32 (cutT 59 s).1).2.1).1 46 (by omega)) (ev_bind (l6Cut_ev (cutT 32 (cutT 32 (cutT 59 s).1).2.1).2.1 61 (by omega)) ?_))))
    by_cases hc : (cutT 59 s).2.2 = true ∧ (parseS (cutT 59 s).1).2 = true
    · rw [if_pos hc]
      obtain ⟨h1, h2⟩ := hc
      have h3 := h2
      unfold parseS at h3
      simp only [Bool.and_eq_true] at h3
      obtain ⟨b1, b2, b3, b4⟩ := h3
      refine ev_if_neg (by simp [h1]) (ev_if_neg (by simp [b1]) (ev_if_neg (by simp [b2]) (ev_if_neg (by simp [b3]) (ev_if_neg (by simp [b4]) ?_))))
      have hlt := cutT_lt h1
      refine ev_bind (l6Number_ev _) (ev_bind (l6Number_ev _) (ev_bind (l6Number_ev _) (ev_if_pos (by simp only [List.length_cons, List.length_nil]; omega) ?_)))
      refine specRun_ev s0 d (cutT 59 s).2.1 _ (by omega) (by omega) (by simp; omega) fun x hx => ?_
      rcases List.mem_append.1 hx with hx | hx
      · exact hz x hx
      · obtain rfl := List.mem_singleton.1 hx
        exact parseS_sz _ (by omega)
    · rw [if_neg hc]
      by_cases h1 : (cutT 59 s).2.2 = true
      rotate_left 1
      · exact ev_if_pos (by simpa using h1) (ev_some _)
      refine ev_if_neg (by simp [h1]) ?_
      have h2 : ¬ (parseS (cutT 59 s).1).2 = true := fun h => hc ⟨h1, h⟩
      unfold parseS at h2
      simp only [Bool.and_eq_true] at h2
      by_cases b1 : (cutT 32 (cutT 59 s).1).2.2 = true
      rotate_left 1
      · exact ev_if_pos (by simpa using b1) (ev_some _)
      refine ev_if_neg (by simp [b1]) ?_
      by_cases b2 : (cutT 32 (cutT 32 (cutT 59 s).1).2.1).2.2 = true
      rotate_left 1
      · exact ev_if_pos (by simpa using b2) (ev_some _)
      refine ev_if_neg (by simp [b2]) ?_
      by_cases b3 : (cutT 46 (cutT 32 (cutT 32 (cutT 59 s).1).2.1).1).2.2 = true
      rotate_left 1
      · exact ev_if_pos (by simpa using b3) (ev_some _)
      refine ev_if_neg (by simp [b3]) ?_
      exact ev_if_pos (by
        have : ¬ (cutT 61 (cutT 32 (cutT 32 (cutT 59 s).1).2.1).2.1).2.2 = true := fun b4 => h2 ⟨b1, b2, b3, b4⟩
        simpa using this) (ev_some _)

/-! ### readlog3 -/
/-! what is taken is a log's own text -/
def tx (x : EntT) : List UInt8 := (entTx x).data.toList
theorem catS_list (a b : ByteArray) : (catS a b).data.toList = a.data.toList ++ b.data.toList := by simp [catS]
theorem logTx_from (l : List EntT) : ∀ a : ByteArray, (l.foldl (fun a x => catS a (entTx x)) a).data.toList = a.data.toList ++ l.flatMap tx := by
  induction l with
  | nil => intro a; simp
  | cons x l ih =>
    intro a
    rw [List.foldl_cons, ih, catS_list, List.flatMap_cons, List.append_assoc]
    rfl
theorem logTx_list (l : List EntT) : (logTx l).data.toList = l.flatMap tx := by
  unfold logTx
  rw [logTx_from]
  rfl
theorem runI_acc : ∀ (d : Nat) (s : ByteArray) (out L : List EntT), runI d s out = (L, true) → logB L = true ∧ ∃ T, L = out ++ T ∧ s.data.toList = T.flatMap tx
  | 0, s, out, L, h => by simp [runI] at h
  | d + 1, s, out, L, h => by
    simp only [runI] at h
    split at h
    · rename_i he
      split at h
      · rename_i hb
        simp only [Prod.mk.injEq, and_true] at h
        subst h
        exact ⟨hb, [], by simp, by rw [he]; rfl⟩
      · simp at h
    · split at h
      · rename_i hc
        obtain ⟨h1, h2, _⟩ := hc
        obtain ⟨hb, T, hT, hs⟩ := runI_acc d _ _ L h
        refine ⟨hb, (readI (cutT 59 s).1).1 :: T, by rw [hT]; simp, ?_⟩
        have ht : entTx (readI (cutT 59 s).1).1 = catS (cutT 59 s).1 ch59 := by
          have h2' := h2
          unfold readI at h2' ⊢
          split at h2'
          · rename_i hh
            rw [if_pos hh]; exact hh.2.2.2
          · simp at h2'
        have hbk := cutB_back (c := 59) (l := s.data.toList) h1
        rw [List.flatMap_cons]
        have e1 : tx (readI (cutT 59 s).1).1 = (cutB 59 s.data.toList).1 ++ [59] := by
          unfold tx
          rw [ht, catS_list]
          unfold cutT
          rw [mkT_list]
          rfl
        have e2 : (cutT 59 s).2.1.data.toList = (cutB 59 s.data.toList).2.1 := by unfold cutT; rw [mkT_list]
        rw [e1, ← hs, e2, List.append_assoc]
        exact hbk
      · simp at h
theorem runI_rej : ∀ (d : Nat) (s : ByteArray) (out : List EntT), (runI d s out).2 = false → runI d s out = ([], false)
  | 0, s, out, h => rfl
  | d + 1, s, out, h => by
    simp only [runI] at h ⊢
    split at h
    · rename_i he
      rw [if_pos he]
      split at h
      · simp at h
      · rename_i hb; rw [if_neg hb]
    · rename_i he
      rw [if_neg he]
      split at h
      · rename_i hc; rw [if_pos hc]; exact runI_rej d _ _ h
      · rename_i hc; rw [if_neg hc]
theorem finS_acc {s0 : ByteArray} {out L : List EntT} (h : finS s0 out = (L, true)) : logB L = true ∧ logTx L = s0 := by
  unfold finS at h
  split at h
  · rename_i hc
    simp only [Prod.mk.injEq, and_true] at h
    subst h; exact hc
  · simp at h
theorem finS_rej {s0 : ByteArray} {out : List EntT} (h : (finS s0 out).2 = false) : finS s0 out = ([], false) := by
  unfold finS at h ⊢
  split at h
  · simp at h
  · rename_i hc; rw [if_neg hc]
theorem runS_acc (s0 : ByteArray) : ∀ (d : Nat) (s : ByteArray) (out L : List EntT), runS s0 d s out = (L, true) → logB L = true ∧ logTx L = s0
  | 0, s, out, L, h => by simp [runS] at h
  | d + 1, s, out, L, h => by
    simp only [runS] at h
    split at h
    · exact finS_acc h
    · split at h
      · exact runS_acc s0 d _ _ L h
      · simp at h
theorem runS_rej (s0 : ByteArray) : ∀ (d : Nat) (s : ByteArray) (out : List EntT), (runS s0 d s out).2 = false → runS s0 d s out = ([], false)
  | 0, s, out, h => rfl
  | d + 1, s, out, h => by
    simp only [runS] at h ⊢
    split at h
    · rename_i he; rw [if_pos he]; exact finS_rej h
    · rename_i he
      rw [if_neg he]
      split at h
      · rename_i hc; rw [if_pos hc]; exact runS_rej s0 d _ _ h
      · rename_i hc; rw [if_neg hc]
/-! a good entry's text is read back -/
def dg (n : Int) : List UInt8 := Lib.decDigits n.toNat
theorem itoa_list {n : Int} (h : 0 ≤ n) : (gvItoa n).data.toList = dg n := by
  obtain ⟨m, rfl⟩ := Int.eq_ofNat_of_zero_le h
  unfold gvItoa dg
  rw [Lib.itoa_nonneg]
  simp
def tidL (x : EntT) : List UInt8 := dg x.2.2.2.1 ++ 46 :: dg x.2.2.2.2.1
def kvL (x : EntT) : List UInt8 := x.2.1.data.toList ++ 61 :: x.2.2.1.data.toList
def bodyL (x : EntT) : List UInt8 := dg x.1 ++ 32 :: (tidL x ++ 32 :: kvL x)
theorem dg_not {n : Int} {c : UInt8} (h : c.toNat < 48 ∨ 57 < c.toNat) : c ∉ dg n := fun hc => by
  have := dec_digits n.toNat c hc
  omega
theorem key_not {s : ByteArray} (h : keyB s = true) {c : UInt8} (hc : c.toNat < 48 ∨ (57 < c.toNat ∧ c.toNat < 97)) : c ∉ s.data.toList := fun hm => by
  unfold keyB at h
  simp only [Bool.and_eq_true, List.all_eq_true] at h
  have := h.2 c hm
  unfold keyByte at this
  simp only [Bool.or_eq_true, Bool.and_eq_true, decide_eq_true_eq] at this
  omega
theorem val_not {s : ByteArray} (h : valB s = true) : (59 : UInt8) ∉ s.data.toList := fun hm => by
  unfold valB at h
  simp only [Bool.and_eq_true, allFrom_iff] at h
  obtain ⟨i, hi⟩ := List.mem_iff_getElem?.1 hm
  have := h.1 i 59 hi
  simp [chB] at this
structure GoodE (x : EntT) : Prop where
  t : 0 ≤ x.1 ∧ x.1 ≤ 65535
  key : keyB x.2.1 = true
  val : valB x.2.2.1 = true
  ep : 0 ≤ x.2.2.2.1 ∧ x.2.2.2.1 ≤ 1048575
  sq : 0 ≤ x.2.2.2.2.1 ∧ x.2.2.2.2.1 ≤ 16777215
  free : x.2.2.2.2.2 = false
theorem goodE {x : EntT} (h : entryB x = true) : GoodE x := by
  unfold entryB tidB at h
  simp only [Bool.and_eq_true, decide_eq_true_eq, Bool.not_eq_true'] at h
  exact ⟨h.1, h.2.1, h.2.2.1, h.2.2.2.1.1, h.2.2.2.1.2, h.2.2.2.2.1⟩
theorem tx_body {x : EntT} (h : GoodE x) : tx x = bodyL x ++ [59] := by
  unfold tx entTx bodyL tidL kvL
  simp only [catS_list, itoa_list h.t.1, itoa_list h.ep.1, itoa_list h.sq.1]
  simp [ch32, ch46, ch61, ch59]
theorem body_not {x : EntT} (h : GoodE x) : (59 : UInt8) ∉ bodyL x := by
  unfold bodyL tidL kvL
  have e : (59 : UInt8).toNat = 59 := rfl
  have d1 := dg_not (n := x.1) (c := 59) (.inr (by omega))
  have d2 := dg_not (n := x.2.2.2.1) (c := 59) (.inr (by omega))
  have d3 := dg_not (n := x.2.2.2.2.1) (c := 59) (.inr (by omega))
  have k1 := key_not h.key (c := 59) (.inr (by omega))
  have v1 := val_not h.val
  simp only [List.mem_append, List.mem_cons, not_or]
  exact ⟨d1, by decide, ⟨d2, by decide, d3⟩, by decide, k1, by decide, v1⟩
theorem cut_body {x : EntT} (h : GoodE x) {s : ByteArray} {r : List UInt8} (hs : s.data.toList = tx x ++ r) : cutT 59 s = (mkT (bodyL x), mkT r, true) := by
  unfold cutT
  rw [hs, tx_body h, List.append_assoc]
  show (mkT (cutB 59 (bodyL x ++ 59 :: r)).1, mkT (cutB 59 (bodyL x ++ 59 :: r)).2.1, (cutB 59 (bodyL x ++ 59 :: r)).2.2) = _
  rw [cutB_hit (body_not h)]
theorem cuts {x : EntT} (h : GoodE x) : cutB 32 (bodyL x) = (dg x.1, tidL x ++ 32 :: kvL x, true) ∧ cutB 32 (tidL x ++ 32 :: kvL x) = (tidL x, kvL x, true) ∧ cutB 46 (tidL x) = (dg x.2.2.2.1, dg x.2.2.2.2.1, true) ∧ cutB 61 (kvL x) = (x.2.1.data.toList, x.2.2.1.data.toList, true) := by
  have e32 : (32 : UInt8).toNat = 32 := rfl
  have e46 : (46 : UInt8).toNat = 46 := rfl
  have e61 : (61 : UInt8).toNat = 61 := rfl
  refine ⟨cutB_hit (dg_not (.inl (by omega))), cutB_hit ?_, cutB_hit (dg_not (.inl (by omega))), cutB_hit (key_not h.key (.inr (by omega)))⟩
  unfold tidL
  simp only [List.mem_append, List.mem_cons, not_or]
  exact ⟨dg_not (.inl (by omega)), by decide, dg_not (.inl (by omega))⟩
theorem numB_dg {n : Int} (h0 : 0 ≤ n) (h1 : n < 1000000000) : numB (dg n) = n := by
  obtain ⟨m, rfl⟩ := Int.eq_ofNat_of_zero_le h0
  exact numB_dec m (by omega)
theorem atoi_dg {n : Int} (h0 : 0 ≤ n) (h1 : n < 1000000000) {s : ByteArray} (hs : s.data.toList = dg n) : gvAtoi s = (n, false) := by
  obtain ⟨m, rfl⟩ := Int.eq_ofNat_of_zero_le h0
  unfold gvAtoi
  rw [hs, show dg ((m : Nat) : Int) = Lib.decDigits m from rfl, atoi_dec m (by omega)]
theorem parse_body {x : EntT} (h : GoodE x) : parseS (mkT (bodyL x)) = (x, true) := by
  obtain ⟨c1, c2, c3, c4⟩ := cuts h
  have k1 : cutT 32 (mkT (bodyL x)) = (mkT (dg x.1), mkT (tidL x ++ 32 :: kvL x), true) := by unfold cutT; rw [mkT_list, c1]
  have k2 : cutT 32 (mkT (tidL x ++ 32 :: kvL x)) = (mkT (tidL x), mkT (kvL x), true) := by unfold cutT; rw [mkT_list, c2]
  have k3 : cutT 46 (mkT (tidL x)) = (mkT (dg x.2.2.2.1), mkT (dg x.2.2.2.2.1), true) := by unfold cutT; rw [mkT_list, c3]
  have k4 : cutT 61 (mkT (kvL x)) = (x.2.1, x.2.2.1, true) := by unfold cutT; rw [mkT_list, c4, mkT_eta, mkT_eta]
  unfold parseS
  simp only [k1, k2, k3, k4, mkT_list]
  rw [numB_dg h.t.1 (by have := h.t.2; omega), numB_dg h.ep.1 (by have := h.ep.2; omega), numB_dg h.sq.1 (by have := h.sq.2; omega), ← h.free]
  rfl
theorem split_body {x : EntT} (h : GoodE x) : gvSplitN (mkT (bodyL x)) sp1 3 = [mkT (dg x.1), mkT (tidL x), mkT (kvL x)] := by
  obtain ⟨c1, c2, c3, c4⟩ := cuts h
  have hsz : 2 ≤ (mkT (bodyL x)).size := by
    rw [mkT_size]; unfold bodyL; simp; omega
  have hm : min (Int.toNat 3) ((mkT (bodyL x)).size + 1) - 1 = 2 := by
    have : Int.toNat 3 = 3 := rfl
    omega
  unfold gvSplitN
  rw [hm, split_hit 1 (by rw [mkT_list]; exact c1), split_hit 0 (by rw [mkT_list]; exact c2), Lib.splitB_zero]
theorem read_body {x : EntT} (h : GoodE x) (hx : entryB x = true) : readI (mkT (bodyL x)) = (x, true) := by
  obtain ⟨c1, c2, c3, c4⟩ := cuts h
  have k3 : cutT 46 (mkT (tidL x)) = (mkT (dg x.2.2.2.1), mkT (dg x.2.2.2.2.1), true) := by unfold cutT; rw [mkT_list, c3]
  have k4 : cutT 61 (mkT (kvL x)) = (x.2.1, x.2.2.1, true) := by unfold cutT; rw [mkT_list, c4, mkT_eta, mkT_eta]
  have hsp := split_body h
  have r0 : rdT .str [mkT (dg x.1), mkT (tidL x), mkT (kvL x)] 0 = mkT (dg x.1) := rfl
  have r1 : rdT .str [mkT (dg x.1), mkT (tidL x), mkT (kvL x)] 1 = mkT (tidL x) := rfl
  have r2 : rdT .str [mkT (dg x.1), mkT (tidL x), mkT (kvL x)] 2 = mkT (kvL x) := rfl
  have a0 := atoi_dg h.t.1 (by have := h.t.2; omega) (mkT_list (dg x.1))
  have a1 := atoi_dg h.ep.1 (by have := h.ep.2; omega) (mkT_list (dg x.2.2.2.1))
  have a2 := atoi_dg h.sq.1 (by have := h.sq.2; omega) (mkT_list (dg x.2.2.2.2.1))
  have hE : readE (gvSplitN (mkT (bodyL x)) sp1 3) = x := by
    unfold readE
    rw [hsp, r0, r1, r2, k3, k4]
    simp only [a0, a1, a2]
    rw [← h.free]
  have hB : readB (gvSplitN (mkT (bodyL x)) sp1 3) = false := by
    unfold readB
    rw [hsp, r0, r1, k3]
    simp only [a0, a1, a2]
    rfl
  have hT : entTx (readE (gvSplitN (mkT (bodyL x)) sp1 3)) = catS (mkT (bodyL x)) ch59 := by
    rw [hE]
    refine Go.WideShapes.bytes_inj ?_
    rw [catS_list, mkT_list]
    exact tx_body h
  have hL : (gvSplitN (mkT (bodyL x)) sp1 3).length = 3 := by rw [hsp]; rfl
  have hv : readI (mkT (bodyL x)) = (readE (gvSplitN (mkT (bodyL x)) sp1 3), true) := if_pos ⟨hL, hB, by rw [hE]; exact hx, hT⟩
  rw [hv, hE]
theorem runI_all : ∀ (T : List EntT) (d : Nat) (s : ByteArray) (out : List EntT), s.size < d → s.data.toList = T.flatMap tx → logB (out ++ T) = true → runI d s out = (out ++ T, true)
  | [], d, s, out, hd, hs, hb => by
    obtain ⟨d, rfl⟩ : ∃ e, d = e + 1 := ⟨d - 1, by omega⟩
    have he : s = emp := Go.WideShapes.bytes_inj (by rw [hs]; rfl)
    simp only [runI, if_pos he]
    rw [List.append_nil] at hb ⊢
    rw [if_pos hb]
  | x :: T, d, s, out, hd, hs, hb => by
    obtain ⟨d, rfl⟩ : ∃ e, d = e + 1 := ⟨d - 1, by omega⟩
    obtain ⟨h1, h2⟩ := log_all hb
    have hx := h1 x (by simp)
    have hg := goodE hx
    rw [List.flatMap_cons] at hs
    have hc := cut_body hg hs
    have he : s ≠ emp := fun e => by
      rw [e, tx_body hg] at hs
      have := congrArg List.length hs
      simp [emp] at this
    have hlt := cutT_lt (c := 59) (s := s) (by rw [hc])
    simp only [runI, if_neg he]
    rw [if_pos ⟨by rw [hc], by rw [hc, read_body hg hx], by simp only [List.length_append, List.length_cons] at h2; omega⟩]
    rw [hc] at hlt ⊢
    rw [read_body hg hx]
    have := runI_all T d (mkT (T.flatMap tx)) (out ++ [x]) (by have : (mkT (T.flatMap tx)).size < s.size := hlt; omega) (mkT_list _) (by simpa using hb)
    simpa using this
theorem runS_all (s0 : ByteArray) : ∀ (T : List EntT) (d : Nat) (s : ByteArray) (out : List EntT), s.size < d → s.data.toList = T.flatMap tx → logB (out ++ T) = true → logTx (out ++ T) = s0 → runS s0 d s out = (out ++ T, true)
  | [], d, s, out, hd, hs, hb, ht => by
    obtain ⟨d, rfl⟩ : ∃ e, d = e + 1 := ⟨d - 1, by omega⟩
    have he : s = emp := Go.WideShapes.bytes_inj (by rw [hs]; rfl)
    simp only [runS, if_pos (show s = emp ∨ 80 < out.length from .inl he)]
    rw [List.append_nil] at hb ht ⊢
    unfold finS
    rw [if_pos ⟨hb, ht⟩]
  | x :: T, d, s, out, hd, hs, hb, ht => by
    obtain ⟨d, rfl⟩ : ∃ e, d = e + 1 := ⟨d - 1, by omega⟩
    obtain ⟨h1, h2⟩ := log_all hb
    have hx := h1 x (by simp)
    have hg := goodE hx
    rw [List.flatMap_cons] at hs
    have hc := cut_body hg hs
    have he : s ≠ emp := fun e => by
      rw [e, tx_body hg] at hs
      have := congrArg List.length hs
      simp [emp] at this
    have hlt := cutT_lt (c := 59) (s := s) (by rw [hc])
    have hn : ¬ (s = emp ∨ 80 < out.length) := fun h => h.elim he (fun h => by simp only [List.length_append, List.length_cons] at h2; omega)
    simp only [runS, if_neg hn]
    rw [if_pos ⟨by rw [hc], by rw [hc, parse_body hg]⟩]
    rw [hc] at hlt ⊢
    rw [parse_body hg]
    have := runS_all s0 T d (mkT (T.flatMap tx)) (out ++ [x]) (by have : (mkT (T.flatMap tx)).size < s.size := hlt; omega) (mkT_list _) (by simpa using hb) (by simpa using ht)
    simpa using this
/-- both ways read the same -/
theorem runs_same (s : ByteArray) : runI (s.size + 1) s [] = runS s (s.size + 1) s [] := by
  cases hI : (runI (s.size + 1) s []).2 with
  | true =>
    obtain ⟨L, b, hL⟩ : ∃ L b, runI (s.size + 1) s [] = (L, b) := ⟨_, _, rfl⟩
    rw [hL] at hI
    obtain rfl : b = true := hI
    obtain ⟨hb, T, hT, hs⟩ := runI_acc _ _ _ _ hL
    rw [List.nil_append] at hT
    subst hT
    have := runS_all s L (s.size + 1) s [] (by omega) hs (by simpa using hb) (by rw [List.nil_append]; exact Go.WideShapes.bytes_inj (by rw [logTx_list, hs]))
    rw [hL, this, List.nil_append]
  | false =>
    rw [runI_rej _ _ _ hI]
    cases hS : (runS s (s.size + 1) s []).2 with
    | false => rw [runS_rej _ _ _ _ hS]
    | true =>
      obtain ⟨L, b, hL⟩ : ∃ L b, runS s (s.size + 1) s [] = (L, b) := ⟨_, _, rfl⟩
      rw [hL] at hS
      obtain rfl : b = true := hS
      obtain ⟨hb, ht⟩ := runS_acc s _ _ _ _ hL
      have := runI_all L (s.size + 1) s [] (by omega) (by rw [← ht, logTx_list]) (by simpa using hb)
      rw [this] at hI
      cases hI
theorem readLog_ev (s : ByteArray) (hs : s.size ≤ 1048576) : ∃ r : List EntT × Bool, Ev (fun k => spec_ReadLog k s) r ∧ Ev (fun k => impl_ReadLog k s) r ∧ r.1.length ≤ 80 := by
  refine ⟨runI (s.size + 1) s [], ?_, ?_, ?_⟩
  · rw [runs_same]
    exact ev_congr (fun k => spec_ReadLog_eq k s) (specRun_ev s _ s [] (by omega) hs (by simp) (by simp))
  · exact ev_congr (fun k => impl_ReadLog_eq k s) (implRun_ev _ s [] (by omega) hs (by simp) (by simp))
  · cases hI : (runI (s.size + 1) s []).2 with
    | false => rw [runI_rej _ _ _ hI]; simp
    | true =>
      obtain ⟨L, b, hL⟩ : ∃ L b, runI (s.size + 1) s [] = (L, b) := ⟨_, _, rfl⟩
      rw [hL] at hI ⊢
      obtain rfl : b = true := hI
      exact (log_all (runI_acc _ _ _ _ hL).1).2
theorem law (a0 : ByteArray) (h0 : okT .str a0) : ∃ k, laws_FnExactReadLog k a0 = some true := by
  apply ev_fuel
  refine ev_congr (fun k => laws_FnExactReadLog_eq k a0) ?_
  by_cases hsz : (1048576 : Int) < (a0.size : Int)
  · exact ev_if_pos hsz (ev_some _)
  refine ev_if_neg hsz ?_
  obtain ⟨r, b1, b2, hr⟩ := readLog_ev a0 (by omega)
  have eq := eqEntryS_ev r.1 (by omega)
  have mk := markEntryS_ev r.1 1 (by omega) (by omega)
  have hd := heldEntryS_ev 1 r.1.length (by omega) (by omega)
  refine ev_bind b1 (ev_bind b2 (ev_bind eq (ev_if_neg (by simp) (ev_if_neg (by simp) ?_))))
  refine ev_bind mk (ev_bind hd (ev_if_neg (by omega) (ev_if_neg (by simp) ?_)))
  refine ev_bind b2 (ev_bind eq (ev_if_neg (by simp) (ev_if_neg (by simp) ?_)))
  exact ev_bind hd (ev_if_neg (by omega) (ev_if_neg (by simp) (ev_some _)))

end Go.Proofs.YtecddhkfhkpeaaaDoor.Fms
