/- What the law's functions give: the pure part. -/
import Derived.Test.YtaenobdphjindaaDoorFmAid
import Derived.Test.YtaenobdphjindaaDoorFmOpn
import Derived.Test.YtaenobdphjindaaDoorFmXFnExactLogTextEq
set_option autoImplicit true
set_option maxRecDepth 100000
set_option linter.unusedVariables false
set_option linter.unusedSimpArgs false
set_option linter.unnecessarySimpa false
set_option linter.unusedSectionVars false
open Go Go.Fm Go.RowKit
namespace Go.Proofs.YtaenobdphjindaaDoor.Fms
/-! ### base -/
theorem l1In_ev (n lo hi : Int) : Ev (fun k => spec_l1In k n lo hi) (decide (lo ≤ n ∧ n ≤ hi)) := ev_congr (fun k => by rw [spec_l1In_eq]) (by by_cases h : lo ≤ n <;> simp [ev_some_iff, h])

/-! ### inn -/
theorem in_ev (n lo hi : Int) : Ev (fun k => impl_in k n lo hi) (decide (lo ≤ n ∧ n ≤ hi)) := ev_congr (fun k => by rw [impl_in_eq]) (by by_cases h : lo ≤ n <;> simp [ev_some_iff, h])

/-! ### keys -/
def keyByte (b : UInt8) : Bool := (decide (97 ≤ b.toNat) && decide (b.toNat ≤ 122)) || (decide (48 ≤ b.toNat) && decide (b.toNat ≤ 57))
def keyB (s : ByteArray) : Bool := decide (1 ≤ s.size ∧ s.size ≤ 8) && s.data.toList.all keyByte
def keyCut : List UInt8 := [97, 98, 99, 100, 101, 102, 103, 104, 105, 106, 107, 108, 109, 110, 111, 112, 113, 114, 115, 116, 117, 118, 119, 120, 121, 122, 48, 49, 50, 51, 52, 53, 54, 55, 56, 57]
theorem keyCut_has (b : UInt8) : keyCut.contains b = keyByte b := by
  have h : ∀ n : Fin 256, keyCut.contains (UInt8.ofNat n.val) = keyByte (UInt8.ofNat n.val) := by decide +kernel
  have := h ⟨b.toNat, b.toNat_lt⟩
  simpa using this
theorem drop_nil {α : Type} (p : α → Bool) (l : List α) : (l.dropWhile p).isEmpty = l.all p := by
  induction l with
  | nil => rfl
  | cons x l ih => cases h : p x <;> simp [List.dropWhile_cons, h, ih]
theorem all_drop {α : Type} (p : α → Bool) (l : List α) : (l.dropWhile p).all p = l.all p := by
  induction l with
  | nil => rfl
  | cons x l ih => cases h : p x <;> simp [List.dropWhile_cons, h, ih]
theorem trim_nil (l : List UInt8) : (Go.Lib.trimS l keyCut).isEmpty = l.all keyByte := by
  unfold Go.Lib.trimS Go.Lib.trimLeftS Go.Lib.trimRightS
  rw [drop_nil, List.all_reverse, all_drop, List.all_reverse]
  congr 1
  funext b
  exact keyCut_has b
theorem mk_nil (l : List UInt8) : decide ((⟨l.toArray⟩ : ByteArray) = ByteArray.mk (Array.mk [])) = l.isEmpty := by
  cases l with
  | nil => exact decide_eq_true rfl
  | cons x l => exact decide_eq_false (fun h => by have := congrArg (fun b : ByteArray => b.data.size) h; simp at this)
theorem isKey_ev (s : ByteArray) : Ev (fun k => impl_isKey k s) (keyB s) := by
  refine ev_congr (fun k => impl_isKey_eq k s) ?_
  have e : MapW.strings_Trim.f s ⟨#[97, 98, 99, 100, 101, 102, 103, 104, 105, 106, 107, 108, 109, 110, 111, 112, 113, 114, 115, 116, 117, 118, 119, 120, 121, 122, 48, 49, 50, 51, 52, 53, 54, 55, 56, 57]⟩ = if s.size ≤ 9223372036854775807 then some ⟨(Go.Lib.trimS s.data.toList keyCut).toArray⟩ else none := by
    unfold MapW.strings_Trim.f
    by_cases h : s.size ≤ 9223372036854775807
    · rw [if_pos ⟨h, by decide, by decide⟩, if_pos h]; rfl
    · rw [if_neg (fun hh => h hh.1), if_neg h]
  simp only [e]
  unfold keyB
  by_cases h1 : (1 : Int) ≤ (s.size : Int)
  · by_cases h2 : (s.size : Int) ≤ 8
    · have h3 : 1 ≤ s.size ∧ s.size ≤ 8 := by omega
      rw [if_pos h1, if_pos h2, if_pos (by omega)]
      simp only [Option.bind_some, mk_nil, trim_nil, h3, decide_true, and_self, Bool.true_and]
      exact ev_some _
    · have h3 : ¬ (1 ≤ s.size ∧ s.size ≤ 8) := by omega
      rw [if_pos h1, if_neg h2]
      simp only [h3, decide_false, Bool.false_and]
      exact ev_some _
  · have h3 : ¬ (1 ≤ s.size ∧ s.size ≤ 8) := by omega
    rw [if_neg h1]
    simp only [h3, decide_false, Bool.false_and]
    exact ev_some _
theorem l1Key_ev (s : ByteArray) (hs : s.size ≤ 140737488355328) : Ev (fun k => spec_l1Key k s) (keyB s) := by
  have hl := size_len s
  have key := drop_ind0 s.data.toList (fun n rest => Ev (fun k => spec_l1Key_h2 k s (n : Int)) (rest.all keyByte && decide (1 ≤ s.size ∧ s.size ≤ 8))) ?_ ?_
  · refine ev_congr (fun k => spec_l1Key_eq k s) ?_
    unfold keyB
    rw [Bool.and_comm]
    exact key
  · refine ev_shift ?_
    simp only [spec_l1Key_h2_eq, ev_ite_iff, ev_bind_iff (l1In_ev _ _ _), ev_some_iff]
    rw [← hl, if_neg (by omega)]
    simp only [List.all_nil, Bool.true_and]
    congr 1
    exact propext ⟨fun h => by omega, fun h => by omega⟩
  · intro n b rest hn hx hd ih
    refine ev_shift ?_
    simp only [spec_l1Key_h2_eq, bt_nat hx, wrap_nat (show n < 9223372036854775807 by omega), ev_ite_iff, ev_some_iff, ev_none_iff, List.all_cons]
    rw [if_pos (by omega), if_pos (by omega), if_pos (by omega)]
    cases hp : keyByte b with
    | true =>
      simp only [Bool.true_and]
      simp only [keyByte, Bool.or_eq_true, Bool.and_eq_true, decide_eq_true_eq] at hp
      split
      · split
        · exact ih
        · rw [if_pos (by omega), if_neg (by omega)]; exact ih
      · rw [if_pos (by omega), if_neg (by omega)]; exact ih
    | false =>
      simp only [keyByte, Bool.or_eq_false_iff, Bool.and_eq_false_iff, decide_eq_false_iff_not] at hp
      simp only [Bool.false_and]
      split
      · rw [if_neg (by omega)]
        split
        · rw [if_pos (by omega)]; trivial
        · trivial
      · split
        · rw [if_pos (by omega)]; trivial
        · trivial

/-! ### allloop -/
/-! a loop that asks the same of each -/
def allFrom {α : Type} (p : Nat → α → Bool) : Nat → List α → Bool
  | _, [] => true
  | n, x :: l => p n x && allFrom p (n + 1) l
theorem allFrom_iff {α : Type} {p : Nat → α → Bool} : ∀ {l : List α} {n : Nat}, allFrom p n l = true ↔ ∀ i x, l[i]? = some x → p (n + i) x = true
  | [], n => by simp [allFrom]
  | x :: l, n => by
    simp only [allFrom, Bool.and_eq_true, allFrom_iff (l := l)]
    constructor
    · rintro ⟨h1, h2⟩ i y hy
      cases i with
      | zero => simp at hy; subst hy; exact h1
      | succ i => rw [show n + (i + 1) = n + 1 + i by omega]; exact h2 i y (by simpa using hy)
    · intro h
      refine ⟨h 0 x (by simp), fun i y hy => ?_⟩
      rw [show n + 1 + i = n + (i + 1) by omega]
      exact h (i + 1) y (by simpa using hy)
theorem all_loop {α : Type} (xs : List α) (H : Nat → Int → Option Bool) (p : Nat → α → Bool) (r : Bool) (hend : Ev (fun k => H k (xs.length : Int)) r)
    (hstep : ∀ n x v, n < xs.length → xs[n]? = some x → Ev (fun k => H k ((n + 1 : Nat) : Int)) v → Ev (fun k => H (k + 1) (n : Int)) (p n x && v)) : Ev (fun k => H k 0) (allFrom p 0 xs && r) := by
  have := drop_ind0 xs (fun n rest => Ev (fun k => H k (n : Int)) (allFrom p n rest && r)) (by simpa [allFrom] using hend) (fun n x rest hn hx _ ih => ?_)
  · simpa using this
  · refine ev_shift ?_
    have h := hstep n x _ hn hx ih
    rw [← Bool.and_assoc] at h
    exact h

/-! ### value -/
def chB (b : UInt8) : Bool := decide (32 ≤ b.toNat) && (decide (b.toNat ≤ 126) && !decide (b.toNat = 59))
def valB (s : ByteArray) : Bool := allFrom (fun _ b => chB b) 0 s.data.toList && decide (s.size ≤ 20)
theorem isValue_ev (s : ByteArray) (hs : s.size ≤ 140737488355328) : Ev (fun k => impl_isValue k s) (valB s) := by
  have hl := size_len s
  refine ev_congr (fun k => impl_isValue_eq k s) ?_
  refine all_loop s.data.toList (fun k i => impl_isValue_h2 k s (s.size : Int) i) (fun _ b => chB b) (decide (s.size ≤ 20)) ?_ ?_
  · refine ev_shift ?_
    simp only [impl_isValue_h2_eq, ev_ite_iff, ev_some_iff]
    rw [← hl, if_neg (by omega)]
    congr 1
    exact propext ⟨fun h => by omega, fun h => by omega⟩
  · intro n b v hn hx hv
    simp only [impl_isValue_h2_eq, bt_nat hx, wrap_nat (show n < 9223372036854775807 by omega), ev_ite_iff, ev_some_iff, ev_none_iff]
    have e0 : (0 : Int) ≤ (n : Int) := by omega
    have e1 : (n : Int) < (s.size : Int) := by omega
    simp only [if_pos e0, if_pos e1]
    unfold chB
    by_cases h1 : (b.toNat : Int) < 32
    · rw [if_pos h1]; simp [show ¬ 32 ≤ b.toNat by omega]
    · rw [if_neg h1]
      by_cases h2 : 126 < (b.toNat : Int)
      · rw [if_pos h2]; simp [show ¬ b.toNat ≤ 126 by omega]
      · rw [if_neg h2]
        by_cases h3 : (b.toNat : Int) = 59
        · rw [if_pos h3]; simp [show b.toNat = 59 by omega]
        · rw [if_neg h3]
          simpa [show 32 ≤ b.toNat by omega, show b.toNat ≤ 126 by omega, show ¬ b.toNat = 59 by omega] using hv
theorem l1Value_ev (s : ByteArray) (hs : s.size ≤ 140737488355328) : Ev (fun k => spec_l1Value k s) (valB s) := by
  have hl := size_len s
  refine ev_congr (fun k => spec_l1Value_eq k s) ?_
  refine all_loop s.data.toList (fun k i => spec_l1Value_h2 k s i) (fun _ b => chB b) (decide (s.size ≤ 20)) ?_ ?_
  · refine ev_shift ?_
    simp only [spec_l1Value_h2_eq, ev_ite_iff, ev_some_iff]
    rw [← hl, if_neg (by omega)]
    congr 1
    exact propext ⟨fun h => by omega, fun h => by omega⟩
  · intro n b v hn hx hv
    simp only [spec_l1Value_h2_eq, bt_nat hx, wrap_nat (show n < 9223372036854775807 by omega), ev_ite_iff, ev_some_iff, ev_none_iff]
    have e0 : (0 : Int) ≤ (n : Int) := by omega
    have e1 : (n : Int) < (s.size : Int) := by omega
    simp only [if_pos e0, if_pos e1]
    unfold chB
    by_cases h1 : (b.toNat : Int) < 32
    · rw [if_pos h1]; simp [show ¬ 32 ≤ b.toNat by omega]
    · rw [if_neg h1]
      by_cases h2 : 126 < (b.toNat : Int)
      · rw [if_pos h2]; simp [show ¬ b.toNat ≤ 126 by omega]
      · rw [if_neg h2]
        by_cases h3 : (b.toNat : Int) = 59
        · rw [if_pos h3]; simp [show b.toNat = 59 by omega]
        · rw [if_neg h3]
          simpa [show 32 ≤ b.toNat by omega, show b.toNat ≤ 126 by omega, show ¬ b.toNat = 59 by omega] using hv

/-! ### tid0 -/
abbrev TidT := Int × Int × Bool
abbrev TidK : Kind := .struct (.pair (.int .i64) (.pair (.int .i64) .bool))
def tidB (t : TidT) : Bool := decide (0 ≤ t.1 ∧ t.1 ≤ 1048575) && decide (0 ≤ t.2.1 ∧ t.2.1 ≤ 16777215)
theorem isTid_ev (t : TidT) : Ev (fun k => impl_isTid k t) (tidB t) := by
  refine ev_congr (fun k => impl_isTid_eq k t) ?_
  simp only [ev_bind_iff (in_ev _ _ _), ev_ite_iff, ev_some_iff, tidB]
  by_cases h : 0 ≤ t.1 ∧ t.1 ≤ 1048575 <;> simp [h]
theorem l1Tid_ev (t : TidT) : Ev (fun k => spec_l1Tid k t) (tidB t) := by
  refine ev_congr (fun k => spec_l1Tid_eq k t) ?_
  simp only [ev_bind_iff (l1In_ev _ _ _), ev_ite_iff, ev_some_iff, tidB]
  by_cases h : 0 ≤ t.1 ∧ t.1 ≤ 1048575 <;> simp [h]

/-! ### tid -/
theorem toTid_ev (x : TidT) : Ev (fun k => laws_toTid k x) x := ev_congr (fun k => laws_toTid_eq k x) (ev_some x)

/-! ### tideq -/
theorem eqTid_ev (x : TidT) : Ev (fun k => laws_eqTid k x x) true := ev_congr (fun k => laws_eqTid_eq k x x) (by simp [ev_some_iff])

/-! ### sz2 -/
/-! two texts weigh what they weigh -/
theorem sz2 {F : Nat → Int → Option Int} {p q : ByteArray} (hp : p.size ≤ 140737488351232) (hq : q.size ≤ 140737488351232) (hs : ∀ k a, F k a = (if (wrap64 (a - (p.size : Int))) < 0 then some (-1) else (if (wrap64 ((wrap64 (a - (p.size : Int))) - (q.size : Int))) < 0 then some (-1) else some (wrap64 ((wrap64 (a - (p.size : Int))) - (q.size : Int))))))
    (a : Int) (h0 : 0 ≤ a) (h1 : a ≤ 1048576) : ∃ v, Ev (fun k => F k a) v ∧ v ≤ a ∧ (0 ≤ v → p.size ≤ 1048576 ∧ q.size ≤ 1048576) := by
  have w : wrap64 (a - (p.size : Int)) = a - p.size := wrap_of (by omega) (by omega)
  have w2 : wrap64 (a - (p.size : Int) - (q.size : Int)) = a - p.size - q.size := wrap_of (by omega) (by omega)
  by_cases h : a - (p.size : Int) < 0
  · exact ⟨-1, ev_congr (fun k => by rw [hs, w, if_pos h]) (ev_some _), by omega, fun h => by omega⟩
  · by_cases h' : a - (p.size : Int) - (q.size : Int) < 0
    · exact ⟨-1, ev_congr (fun k => by rw [hs, w, if_neg h, w2, if_pos h']) (ev_some _), by omega, fun h => by omega⟩
    · exact ⟨_, ev_congr (fun k => by rw [hs, w, if_neg h, w2, if_neg h']) (ev_some _), by omega, fun _ => by omega⟩

/-! ### cats -/
theorem wrap_i64 {x : Int} (h0 : -9223372036854775808 ≤ x) (h1 : x ≤ 9223372036854775807) : IntKind.wrap .i64 x = x := by
  rw [← wrapK_eq]; unfold wrapK; rw [if_pos rfl]; exact wrap_of h0 h1
theorem catS_size0 (a b : ByteArray) : (catS a b).size = a.size + b.size := by
  show (catS a b).data.size = a.data.size + b.data.size
  simp [catS]

/-! ### entry -/
abbrev EntT := Int × ByteArray × ByteArray × TidT
abbrev EntK : Kind := .struct (.pair (.int .i64) (.pair .str (.pair .str TidK)))
def szokEntry (x : EntT) : Prop := x.2.1.size ≤ 140737488351232 ∧ x.2.2.1.size ≤ 140737488351232
def szBEntry (x : EntT) : Prop := x.2.1.size ≤ 1048576 ∧ x.2.2.1.size ≤ 1048576
theorem szEntry_ev (x : EntT) (hx : szokEntry x) (a : Int) (h0 : 0 ≤ a) (ha : a ≤ 1048576) : ∃ v, Ev (fun k => laws_szEntry k x a) v ∧ v ≤ a ∧ (0 ≤ v → szBEntry x) := sz2 hx.1 hx.2 (fun k a => laws_szEntry_eq k x a) a h0 ha
theorem toEntry_ev (x : EntT) : Ev (fun k => laws_toEntry k x) x := ev_congr (fun k => laws_toEntry_eq k x) (ev_bind (toTid_ev _) (ev_some x))
theorem eqEntry_ev (x : EntT) : Ev (fun k => laws_eqEntry k x x) true := ev_congr (fun k => laws_eqEntry_eq k x x) (ev_if_neg (by simp) (ev_if_neg (by simp) (ev_if_neg (by simp) (ev_bind (eqTid_ev _) (ev_if_neg (by simp) (ev_some _))))))
theorem szEntryS_ev (l) (hl : l.length ≤ 140737488355328) (hk : ∀ x ∈ l, szokEntry x) (a : Int) (h0 : 0 ≤ a) (h1 : a ≤ 1048576) : ∃ v, Ev (fun k => laws_szEntryS k l a) v ∧ v ≤ a ∧ (0 ≤ v → l.length ≤ 1048576 ∧ ∀ x ∈ l, szBEntry x) :=
  sz_top (fun k l a => laws_szEntryS_eq k l a) (sz_row (fun k l a i => laws_szEntryS_h5_eq k l a i) (fun x hx a h0 h1 => szEntry_ev x (hk x hx) a h0 h1) (by omega)) hl a h0 h1
theorem toEntryS_ev (l) (hl : l.length ≤ 1048576) : Ev (fun k => laws_toEntryS k l) l := by
  refine ev_congr (fun k => laws_toEntryS_eq k l) ?_
  simp only [ev_ite_iff]
  rw [if_pos trivial, if_pos (by omega)]
  simpa using to_row (l := l) (cv := id) (z := _) (fun k l r i => laws_toEntryS_h3_eq k l r i) (fun x _ => toEntry_ev x) (by omega)
theorem eqEntryS_ev (l) (hl : l.length ≤ 140737488355328) : Ev (fun k => laws_eqEntryS k l l) true := by
  refine ev_congr (fun k => laws_eqEntryS_eq k l l) ?_
  simp only [ev_ite_iff]
  rw [if_neg (by simp)]
  exact eq_row (l := l) (fun k a b i => laws_eqEntryS_h4_eq k a b i) (fun x _ => eqEntry_ev x) (by omega)
/-! good entries, good logs -/
def nilTid (t : TidT) : Bool := Bool.and (decide (t.1 = 0)) (Bool.and (decide (t.2.1 = 0)) (decide (t.2.2 = false)))
def sameTid (a b : TidT) : Bool := Bool.and (decide (a.1 = b.1)) (Bool.and (decide (a.2.1 = b.2.1)) (decide (a.2.2 = b.2.2)))
theorem sameTid_iff (a b : TidT) : sameTid a b = true ↔ a = b := by
  unfold sameTid
  simp only [Bool.and_eq_true, decide_eq_true_eq]
  constructor
  · rintro ⟨h1, h2, h3⟩
    exact Prod.ext h1 (Prod.ext h2 h3)
  · rintro rfl; exact ⟨rfl, rfl, rfl⟩
theorem sameTid_comm (a b : TidT) : sameTid a b = sameTid b a := by
  rw [Bool.eq_iff_iff, sameTid_iff, sameTid_iff]
  exact ⟨Eq.symm, Eq.symm⟩
def entryB (x : EntT) : Bool := decide (0 ≤ x.1 ∧ x.1 ≤ 65535) && (keyB x.2.1 && (valB x.2.2.1 && (tidB x.2.2.2 && (!x.2.2.2.2.2 && !nilTid x.2.2.2))))
theorem l6Entry_ev (x : EntT) (h : szBEntry x) : Ev (fun k => spec_l6Entry k x) (entryB x) := by
  refine ev_congr (fun k => spec_l6Entry_eq k x) ?_
  have e : Bool.and (decide (x.2.2.2.1 = 0)) (Bool.and (decide (x.2.2.2.2.1 = 0)) (decide (x.2.2.2.2.2 = false))) = nilTid x.2.2.2 := rfl
  simp only [ev_bind_iff (l1In_ev _ _ _), ev_bind_iff (l1Key_ev x.2.1 (Nat.le_trans h.1 (by omega))), ev_bind_iff (l1Value_ev x.2.2.1 (Nat.le_trans h.2 (by omega))), ev_bind_iff (l1Tid_ev _), ev_ite_iff, ev_some_iff, e]
  unfold entryB
  generalize nilTid x.2.2.2 = nb
  by_cases c1 : 0 ≤ x.1 ∧ x.1 ≤ 65535 <;> cases keyB x.2.1 <;> cases valB x.2.2.1 <;> cases tidB x.2.2.2 <;> cases x.2.2.2.2.2 <;> cases nb <;> simp [c1]
theorem isEntry_ev (x : EntT) (h : szBEntry x) : Ev (fun k => impl_isEntry k x) (entryB x) := by
  refine ev_congr (fun k => impl_isEntry_eq k x) ?_
  have e : Bool.and (decide (x.2.2.2.1 = 0)) (Bool.and (decide (x.2.2.2.2.1 = 0)) (decide (x.2.2.2.2.2 = false))) = nilTid x.2.2.2 := rfl
  simp only [ev_bind_iff (in_ev _ _ _), ev_bind_iff (isKey_ev x.2.1), ev_bind_iff (isValue_ev x.2.2.1 (Nat.le_trans h.2 (by omega))), ev_bind_iff (isTid_ev _), ev_ite_iff, ev_some_iff, e]
  unfold entryB
  generalize nilTid x.2.2.2 = nb
  by_cases c1 : 0 ≤ x.1 ∧ x.1 ≤ 65535 <;> cases keyB x.2.1 <;> cases valB x.2.2.1 <;> cases tidB x.2.2.2 <;> cases x.2.2.2.2.2 <;> cases nb <;> simp [c1]
def alikeB (x o : EntT) : Bool := !(decide (o.2.1 = x.2.1) && (sameTid o.2.2.2 x.2.2.2 && !decide (o.2.2.1 = x.2.2.1)))
theorem alike_loop {H : Nat → Int → Option Bool} (p : List EntT) (x : EntT) (r : Bool) (hend : Ev (fun k => H k (p.length : Int)) r)
    (hstep : ∀ n o v, n < p.length → p[n]? = some o → Ev (fun k => H k ((n + 1 : Nat) : Int)) v → Ev (fun k => H (k + 1) (n : Int)) (alikeB x o && v)) : Ev (fun k => H k 0) (p.all (alikeB x) && r) := by
  have := all_loop p H (fun _ o => alikeB x o) r hend hstep
  have e : ∀ (l : List EntT) (n : Nat), allFrom (fun _ o => alikeB x o) n l = l.all (alikeB x) := by
    intro l
    induction l with
    | nil => intro n; rfl
    | cons o l ih => intro n; simp only [allFrom, ih, List.all_cons]
  rw [e] at this
  exact this
def logFrom (p : List EntT) : List EntT → Bool
  | [] => true
  | x :: r => entryB x && (p.all (alikeB x) && logFrom (p ++ [x]) r)
def alikeFrom (p : List EntT) : List EntT → Bool
  | [] => true
  | x :: r => p.all (alikeB x) && alikeFrom (p ++ [x]) r
def logB (l : List EntT) : Bool := logFrom [] l && decide (l.length ≤ 80)
theorem logFrom_two : ∀ (r p : List EntT), logFrom p r = (r.all entryB && alikeFrom p r)
  | [], _ => rfl
  | x :: r, p => by
    simp only [logFrom, alikeFrom, List.all_cons, logFrom_two r]
    cases entryB x <;> cases p.all (alikeB x) <;> cases r.all entryB <;> simp
theorem dec_eighty (n : Nat) : decide ((n : Int) ≤ 80) = decide (n ≤ 80) := by by_cases h : n ≤ 80 <;> simp [h] <;> omega
theorem specLog_ev (l : List EntT) (hl : l.length ≤ 1048576) (hk : ∀ x ∈ l, szBEntry x) : Ev (fun k => spec_GoodLog k l) (logB l) := by
  refine ev_congr (fun k => spec_GoodLog_eq k l) ?_
  refine drop_ind0 l (fun n rest => Ev (fun k => spec_GoodLog_h2 k l l (l.length : Int) (n : Int)) (logFrom (l.take n) rest && decide (l.length ≤ 80))) ?_ ?_
  · exact ev_last fun k => by rw [spec_GoodLog_h2_eq, if_neg (by omega)]; simp [logFrom, dec_eighty]
  · intro n x rest hn hx _ ih
    rw [take_snoc hx] at ih
    have hlen : (l.take n).length = n := by simp; omega
    have hsl : (List.drop (Int.toNat 0) (List.take (Int.toNat (n : Int)) l)) = l.take n := by simp
    have inner : Ev (fun k => spec_GoodLog_h7 k l x l (l.length : Int) (n : Int) (l.take n) ((l.take n).length : Int) 0) ((l.take n).all (alikeB x) && (logFrom (l.take n ++ [x]) rest && decide (l.length ≤ 80))) := by
      refine alike_loop (H := fun k i => spec_GoodLog_h7 k l x l (l.length : Int) (n : Int) (l.take n) ((l.take n).length : Int) i) (l.take n) x _ ?_ ?_
      · refine ev_shift ?_
        simp only [spec_GoodLog_h7_eq, wrap_nat (show n < 9223372036854775807 by omega), ev_ite_iff]
        rw [if_neg (by omega)]
        exact ih
      · intro j o v hj ho H
        have q0 : (0 : Int) ≤ (j : Int) := by omega
        have q1 : (j : Int) < ((l.take n).length : Int) := by omega
        have e : Bool.and (decide (o.2.2.2.1 = x.2.2.2.1)) (Bool.and (decide (o.2.2.2.2.1 = x.2.2.2.2.1)) (decide (o.2.2.2.2.2 = x.2.2.2.2.2))) = sameTid o.2.2.2 x.2.2.2 := rfl
        simp only [spec_GoodLog_h7_eq, rdT_get (e := EntK) ho, wrap_nat (show j < 9223372036854775807 by omega), ev_ite_iff, ev_none_iff, ev_some_iff, e]
        rw [if_pos q1, if_pos q0, if_pos q1]
        unfold alikeB
        by_cases a1 : o.2.1 = x.2.1
        · by_cases a2 : sameTid o.2.2.2 x.2.2.2 = true
          · by_cases a3 : o.2.2.1 = x.2.2.1
            · simpa [a1, a2, a3] using H
            · simp [a1, a2, a3]
          · simpa [a1, a2] using H
        · simpa [a1] using H
    have q0 : (0 : Int) ≤ (n : Int) := by omega
    have q1 : (n : Int) < (l.length : Int) := by omega
    have q2 : (n : Int) ≤ (l.length : Int) := by omega
    refine ev_shift ?_
    simp only [spec_GoodLog_h2_eq, rdT_get (e := EntK) hx, hsl, ev_bind_iff (l6Entry_ev x (hk x (List.mem_of_getElem? hx))), ev_ite_iff, ev_none_iff, ev_some_iff]
    rw [if_pos q1, if_pos q0, if_pos q1]
    have hno : (logFrom (l.take n) (x :: rest) && decide (l.length ≤ 80)) = (entryB x && ((l.take n).all (alikeB x) && (logFrom (l.take n ++ [x]) rest && decide (l.length ≤ 80)))) := by simp only [logFrom, Bool.and_assoc]
    rw [hno]
    by_cases hb : entryB x = true
    · rw [if_neg (by simp [hb]), if_pos q0, if_pos q2, hb, Bool.true_and]
      exact inner
    · rw [if_pos (by simp [hb])]
      simp [hb]
theorem isLog1_ev (x : EntT) (h : szBEntry x) : Ev (fun k => impl_isLog_1 k x) (!entryB x) := by
  refine ev_congr (fun k => impl_isLog_1_eq k x) ?_
  simp only [ev_bind_iff (isEntry_ev x h), ev_some_iff]
theorem idx_nonneg {α : Type} (p : α → Bool) : ∀ (l : List α) (n : Nat), decide (0 ≤ idxFrom p n l) = l.any p
  | [], n => rfl
  | x :: l, n => by
    rw [List.any_cons, ← idx_nonneg p l (n + 1), idxFrom]
    by_cases h : p x = true <;> simp [h]
theorem hasBad_ev (l : List EntT) (hl : l.length ≤ 1048576) (hk : ∀ x ∈ l, szBEntry x) : Ev (fun k => slices_ContainsFunc k l ()) (l.any fun x => !entryB x) := by
  have key := drop_ind0 l (fun n rest => Ev (fun k => slices_IndexFunc_h2 k l () (l.length : Int) (n : Int)) (idxFrom (fun x => !entryB x) n rest)) ?_ ?_
  · refine ev_congr (fun k => slices_ContainsFunc_eq k l _) ?_
    simp only [ev_bind_iff (ev_congr (fun k => slices_IndexFunc_eq k l ()) key), ev_some_iff, idx_nonneg]
  · exact ev_last fun k => by rw [slices_IndexFunc_h2_eq, if_neg (by omega)]; rfl
  · intro n x rest hn hx _ ih
    have q0 : (0 : Int) ≤ (n : Int) := by omega
    have q1 : (n : Int) < (l.length : Int) := by omega
    refine ev_shift ?_
    simp only [slices_IndexFunc_h2_eq, ev_bind_iff (isLog1_ev x (hk x (List.mem_of_getElem? hx))), rdT_get (e := EntK) hx, wrap_nat (show n < 9223372036854775807 by omega), ev_ite_iff, ev_none_iff, ev_some_iff, idxFrom]
    rw [if_pos q1, if_pos q0, if_pos q1]
    by_cases h1 : entryB x = true
    · rw [if_neg (by simp [h1]), if_neg (by simp [h1])]
      exact ih
    · rw [if_pos (by simp [h1]), if_pos (by simp [h1])]
theorem areAlike_ev (l : List EntT) (hl : l.length ≤ 1048576) : Ev (fun k => impl_areAlike k l) (alikeFrom [] l) := by
  refine ev_congr (fun k => impl_areAlike_eq k l) ?_
  refine drop_ind0 l (fun n rest => Ev (fun k => impl_areAlike_h2 k l l (l.length : Int) (n : Int)) (alikeFrom (l.take n) rest)) ?_ ?_
  · exact ev_last fun k => by rw [impl_areAlike_h2_eq, if_neg (by omega)]; rfl
  · intro n x rest hn hx _ ih
    rw [take_snoc hx] at ih
    have hlen : (l.take n).length = n := by simp; omega
    have hsl : (List.drop (Int.toNat 0) (List.take (Int.toNat (n : Int)) l)) = l.take n := by simp
    have inner : Ev (fun k => impl_areAlike_h5 k l x l (l.length : Int) (n : Int) (l.take n) ((l.take n).length : Int) 0) ((l.take n).all (alikeB x) && alikeFrom (l.take n ++ [x]) rest) := by
      refine alike_loop (H := fun k i => impl_areAlike_h5 k l x l (l.length : Int) (n : Int) (l.take n) ((l.take n).length : Int) i) (l.take n) x _ ?_ ?_
      · refine ev_shift ?_
        simp only [impl_areAlike_h5_eq, wrap_nat (show n < 9223372036854775807 by omega), ev_ite_iff]
        rw [if_neg (by omega)]
        exact ih
      · intro j o v hj ho H
        have q0 : (0 : Int) ≤ (j : Int) := by omega
        have q1 : (j : Int) < ((l.take n).length : Int) := by omega
        have e : Bool.and (decide (x.2.2.2.1 = o.2.2.2.1)) (Bool.and (decide (x.2.2.2.2.1 = o.2.2.2.2.1)) (decide (x.2.2.2.2.2 = o.2.2.2.2.2))) = sameTid o.2.2.2 x.2.2.2 := sameTid_comm x.2.2.2 o.2.2.2
        simp only [impl_areAlike_h5_eq, rdT_get (e := EntK) ho, wrap_nat (show j < 9223372036854775807 by omega), ev_ite_iff, ev_none_iff, ev_some_iff, e]
        rw [if_pos q1, if_pos q0, if_pos q1]
        unfold alikeB
        by_cases a1 : o.2.1 = x.2.1
        · by_cases a2 : sameTid o.2.2.2 x.2.2.2 = true
          · by_cases a3 : o.2.2.1 = x.2.2.1
            · simpa [a1, a2, a3] using H
            · simp [a1, a2, a3, Ne.symm a3]
          · simpa [a1, a2] using H
        · simpa [a1, Ne.symm a1] using H
    have q0 : (0 : Int) ≤ (n : Int) := by omega
    have q1 : (n : Int) < (l.length : Int) := by omega
    have q2 : (n : Int) ≤ (l.length : Int) := by omega
    refine ev_shift ?_
    simp only [impl_areAlike_h2_eq, rdT_get (e := EntK) hx, hsl, ev_ite_iff, ev_none_iff]
    rw [if_pos q1, if_pos q0, if_pos q1, if_pos q0, if_pos q2]
    exact inner
theorem implLog_ev (l : List EntT) (hl : l.length ≤ 1048576) (hk : ∀ x ∈ l, szBEntry x) : Ev (fun k => impl_isLog k l) (logB l) := by
  refine ev_congr (fun k => impl_isLog_eq k l) ?_
  simp only [ev_bind_iff (hasBad_ev l hl hk), ev_bind_iff (areAlike_ev l hl), ev_ite_iff, ev_some_iff]
  unfold logB
  rw [logFrom_two]
  have e : (l.any fun x => !entryB x) = !l.all entryB := by
    rw [Bool.eq_iff_iff]
    simp
  rw [e]
  by_cases h8 : l.length ≤ 80
  · rw [if_pos (by omega)]
    cases l.all entryB <;> simp [h8]
  · rw [if_neg (by omega)]
    simp [h8]
theorem log_all {l : List EntT} (h : logB l = true) : (∀ x ∈ l, entryB x = true) ∧ l.length ≤ 80 := by
  unfold logB at h
  rw [logFrom_two] at h
  simp only [Bool.and_eq_true, List.all_eq_true, decide_eq_true_eq] at h
  exact ⟨h.1.1, h.2⟩

/-! ### logtext -/
/-! LogText: the digits of a number, an entry's text -/
theorem nDigits_le (u : Nat) : Lib.nDigits u ≤ u + 1 := by
  induction u using Nat.strongRecOn with
  | _ u ih =>
    by_cases h : u < 10
    · rw [Lib.nDigits_small h]; omega
    · rw [Lib.nDigits_big h]
      have := ih (u / 10) (by omega)
      omega
theorem itoa_size (n : Nat) : (gvItoa (n : Int)).size ≤ n + 1 := by
  have h : (gvItoa (n : Int)).size = (Lib.decDigits n).length := by
    show ((Lib.itoa (n : Int)).toArray).size = _
    rw [Lib.itoa_nonneg]; simp
  rw [h, Lib.decDigits_length]
  exact nDigits_le n
theorem digit_one {n : Nat} (h : n < 10) : bytesOf [IntKind.wrap .u8 (wrap64 (48 + (n : Int)))] = ⟨[UInt8.ofNat (48 + n)].toArray⟩ := by
  have : n = 0 ∨ n = 1 ∨ n = 2 ∨ n = 3 ∨ n = 4 ∨ n = 5 ∨ n = 6 ∨ n = 7 ∨ n = 8 ∨ n = 9 := by omega
  rcases this with rfl | rfl | rfl | rfl | rfl | rfl | rfl | rfl | rfl | rfl <;> decide +kernel
theorem digit_size (z : Int) : (bytesOf [z]).size = 1 := rfl
theorem l1Num_ev : ∀ (n : Nat), n ≤ 1073741824 → Ev (fun k => spec_l1Num k (n : Int)) (gvItoa (n : Int)) := by
  intro n
  induction n using Nat.strongRecOn with
  | _ n ih =>
    intro hn
    refine ev_shift ?_
    by_cases h : n < 10
    · simp only [spec_l1Num_eq, ev_ite_iff, ev_some_iff]
      rw [if_pos (by omega), digit_one h]
      unfold gvItoa
      rw [Lib.itoa_nonneg, Lib.decDigits_one h]
    · have hd : Int.tdiv (n : Int) 10 = ((n / 10 : Nat) : Int) := by rw [Int.tdiv_eq_ediv_of_nonneg (by omega)]; omega
      have hm : Int.tmod (n : Int) 10 = ((n % 10 : Nat) : Int) := by rw [Int.tmod_eq_emod_of_nonneg (by omega)]; omega
      have hw : IntKind.wrap .i64 ((n / 10 : Nat) : Int) = ((n / 10 : Nat) : Int) := wrap_i64 (by omega) (by omega)
      simp only [spec_l1Num_eq, ev_ite_iff, hd, hw, hm, ev_bind_iff (ih (n / 10) (by omega) (by omega)), ev_some_iff, ev_none_iff, digit_size]
      have := itoa_size (n / 10)
      rw [if_neg (by omega), if_pos (by omega), digit_one (show n % 10 < 10 by omega)]
      unfold gvItoa catS
      rw [Lib.itoa_nonneg, Lib.itoa_nonneg]
      conv => rhs; rw [Lib.decDigits, dif_neg h]
def ch32 : ByteArray := ByteArray.mk (Array.mk (List.cons 32 []))
def ch46 : ByteArray := ByteArray.mk (Array.mk (List.cons 46 []))
def ch61 : ByteArray := ByteArray.mk (Array.mk (List.cons 61 []))
def ch59 : ByteArray := ByteArray.mk (Array.mk (List.cons 59 []))
def entTx (x : EntT) : ByteArray := catS (catS (catS (catS (catS (catS (catS (catS (catS (gvItoa x.1) ch32) (gvItoa x.2.2.2.1)) ch46) (gvItoa x.2.2.2.2.1)) ch32) x.2.1) ch61) x.2.2.1) ch59
def smallE (x : EntT) : Prop := (0 ≤ x.1 ∧ x.1 ≤ 16777216) ∧ (0 ≤ x.2.2.2.1 ∧ x.2.2.2.1 ≤ 16777216) ∧ (0 ≤ x.2.2.2.2.1 ∧ x.2.2.2.2.1 ≤ 16777216) ∧ x.2.1.size ≤ 1048576 ∧ x.2.2.1.size ≤ 1048576
theorem itoa_sizeI {n : Int} (h0 : 0 ≤ n) (h1 : n ≤ 16777216) : (gvItoa n).size ≤ 16777217 := by
  have := itoa_size n.toNat
  rw [show ((n.toNat : Nat) : Int) = n by omega] at this
  omega
theorem l1NumI_ev {n : Int} (h0 : 0 ≤ n) (h1 : n ≤ 16777216) : Ev (fun k => spec_l1Num k n) (gvItoa n) := by
  have := l1Num_ev n.toNat (by omega)
  rwa [show ((n.toNat : Nat) : Int) = n by omega] at this
theorem entTx_size (x : EntT) (h : smallE x) : (entTx x).size ≤ 100000000 := by
  obtain ⟨h1, h2, h3, h4, h5⟩ := h
  have a1 := itoa_sizeI h1.1 h1.2
  have a2 := itoa_sizeI h2.1 h2.2
  have a3 := itoa_sizeI h3.1 h3.2
  have b1 : ch32.size = 1 := rfl
  have b2 : ch46.size = 1 := rfl
  have b3 : ch61.size = 1 := rfl
  have b4 : ch59.size = 1 := rfl
  unfold entTx
  simp only [catS_size0]
  omega
theorem entry_small {x : EntT} (h : entryB x = true) (hs : szBEntry x) : smallE x := by
  unfold entryB tidB at h
  simp only [Bool.and_eq_true, decide_eq_true_eq] at h
  exact ⟨⟨h.1.1, by omega⟩, ⟨h.2.2.2.1.1.1, by omega⟩, ⟨h.2.2.2.1.2.1, by omega⟩, hs.1, hs.2⟩
def logTx (l : List EntT) : ByteArray := l.foldl (fun a x => catS a (entTx x)) (ByteArray.mk (Array.mk []))
theorem logTx_size (l : List EntT) (h : ∀ x ∈ l, smallE x) : ∀ a : ByteArray, (l.foldl (fun a x => catS a (entTx x)) a).size ≤ a.size + 100000000 * l.length := by
  induction l with
  | nil => intro a; simp
  | cons x l ih =>
    intro a
    have h1 := ih (fun y hy => h y (List.mem_cons_of_mem _ hy)) (catS a (entTx x))
    have h2 := entTx_size x (h x (List.mem_cons_self ..))
    rw [List.foldl_cons, List.length_cons]
    rw [catS_size0] at h1
    omega
theorem catS_le {a b : ByteArray} {n : Nat} (h : a.size + b.size ≤ n) : (catS a b).size ≤ n := by rw [catS_size0]; exact h
theorem specText_ev (l : List EntT) (hl : l.length ≤ 80) (hs : ∀ x ∈ l, smallE x) : Ev (fun k => spec_l6Text k l) (logTx l) := by
  refine ev_congr (fun k => spec_l6Text_eq k l) ?_
  have key := drop_ind0 l (fun n rest => Ev (fun k => spec_l6Text_h3 k (logTx (l.take n)) l (l.length : Int) (n : Int)) (logTx l)) ?_ ?_
  · simpa [logTx] using key
  · rw [List.take_length]
    exact ev_last fun k => by rw [spec_l6Text_h3_eq, if_neg (by omega)]
  · intro n x rest hn hx _ ih
    have q0 : (0 : Int) ≤ (n : Int) := by omega
    have q1 : (n : Int) < (l.length : Int) := by omega
    have sx := hs x (List.mem_of_getElem? hx)
    have ee : (entTx x).size ≤ 100000000 := entTx_size x sx
    have ea : (logTx (l.take n)).size ≤ 100000000 * 80 := by
      have := logTx_size (l.take n) (fun y hy => hs y (List.mem_of_mem_take hy)) (ByteArray.mk (Array.mk []))
      have e0 : (ByteArray.mk (Array.mk [])).size = 0 := rfl
      have : (l.take n).length ≤ 80 := by rw [List.length_take]; omega
      unfold logTx
      omega
    rw [take_snoc hx] at ih
    rw [show logTx (l.take n ++ [x]) = catS (logTx (l.take n)) (entTx x) by unfold logTx; rw [List.foldl_append]; rfl] at ih
    obtain ⟨h1, h2, h3, h4, h5⟩ := sx
    have a1 := itoa_sizeI h1.1 h1.2
    have a2 := itoa_sizeI h2.1 h2.2
    have a3 := itoa_sizeI h3.1 h3.2
    have b1 : (ByteArray.mk (Array.mk (List.cons 32 []))).size = 1 := rfl
    have b2 : (ByteArray.mk (Array.mk (List.cons 46 []))).size = 1 := rfl
    have b3 : (ByteArray.mk (Array.mk (List.cons 61 []))).size = 1 := rfl
    have b4 : (ByteArray.mk (Array.mk (List.cons 59 []))).size = 1 := rfl
    refine ev_shift ?_
    simp only [spec_l6Text_h3_eq, rdT_get (e := EntK) hx, wrap_nat (show n < 9223372036854775807 by omega), ev_ite_iff, ev_none_iff, ev_bind_iff (l1NumI_ev h1.1 h1.2), ev_bind_iff (l1NumI_ev h2.1 h2.2), ev_bind_iff (l1NumI_ev h3.1 h3.2), catS_size0]
    rw [if_pos q1, if_pos q0, if_pos q1, if_pos (by omega), if_pos (by omega), if_pos (by omega), if_pos (by omega), if_pos (by omega), if_pos (by omega), if_pos (by omega), if_pos (by omega), if_pos (by omega), if_pos (by omega)]
    exact ih
theorem entText_ev (x : EntT) (h : smallE x) : Ev (fun k => impl_entryText k x) (entTx x) := by
  obtain ⟨h1, h2, h3, h4, h5⟩ := h
  have a1 := itoa_sizeI h1.1 h1.2
  have a2 := itoa_sizeI h2.1 h2.2
  have a3 := itoa_sizeI h3.1 h3.2
  have b1 : (ByteArray.mk (Array.mk (List.cons 32 []))).size = 1 := rfl
  have b2 : (ByteArray.mk (Array.mk (List.cons 46 []))).size = 1 := rfl
  have b3 : (ByteArray.mk (Array.mk (List.cons 61 []))).size = 1 := rfl
  have b4 : (ByteArray.mk (Array.mk (List.cons 59 []))).size = 1 := rfl
  refine ev_congr (fun k => impl_entryText_eq k x) ?_
  have g1 : And ((-9223372036854775808) ≤ x.1) (x.1 ≤ 9223372036854775807) := ⟨by omega, by omega⟩
  have g2 : And ((-9223372036854775808) ≤ x.2.2.2.1) (x.2.2.2.1 ≤ 9223372036854775807) := ⟨by omega, by omega⟩
  have g3 : And ((-9223372036854775808) ≤ x.2.2.2.2.1) (x.2.2.2.2.1 ≤ 9223372036854775807) := ⟨by omega, by omega⟩
  simp only [if_pos g1, if_pos g2, if_pos g3, ev_bind_some_iff, ev_ite_iff, ev_none_iff, ev_some_iff, catS_size0]
  rw [if_pos (by omega), if_pos (by omega), if_pos (by omega), if_pos (by omega), if_pos (by omega), if_pos (by omega), if_pos (by omega), if_pos (by omega), if_pos (by omega)]
  rfl
theorem implText_ev (l : List EntT) (hl : l.length ≤ 80) (hs : ∀ x ∈ l, smallE x) : Ev (fun k => impl_logText k l) (logTx l) := by
  refine ev_congr (fun k => impl_logText_eq k l) ?_
  have key := drop_ind0 l (fun n rest => Ev (fun k => impl_logText_h3 k (logTx (l.take n)) l (l.length : Int) (n : Int)) (logTx l)) ?_ ?_
  · simpa [logTx] using key
  · rw [List.take_length]
    exact ev_last fun k => by rw [impl_logText_h3_eq, if_neg (by omega)]
  · intro n x rest hn hx _ ih
    have q0 : (0 : Int) ≤ (n : Int) := by omega
    have q1 : (n : Int) < (l.length : Int) := by omega
    have sx := hs x (List.mem_of_getElem? hx)
    have ee : (entTx x).size ≤ 100000000 := entTx_size x sx
    have ea : (logTx (l.take n)).size ≤ 100000000 * 80 := by
      have := logTx_size (l.take n) (fun y hy => hs y (List.mem_of_mem_take hy)) (ByteArray.mk (Array.mk []))
      have e0 : (ByteArray.mk (Array.mk [])).size = 0 := rfl
      have : (l.take n).length ≤ 80 := by rw [List.length_take]; omega
      unfold logTx
      omega
    rw [take_snoc hx] at ih
    rw [show logTx (l.take n ++ [x]) = catS (logTx (l.take n)) (entTx x) by unfold logTx; rw [List.foldl_append]; rfl] at ih
    refine ev_shift ?_
    simp only [impl_logText_h3_eq, rdT_get (e := EntK) hx, wrap_nat (show n < 9223372036854775807 by omega), ev_ite_iff, ev_none_iff, ev_bind_iff (entText_ev x sx)]
    rw [if_pos q1, if_pos q0, if_pos q1, if_pos (by omega)]
    exact ih
theorem law (a0 : List EntT) (h0 : okT (.slice EntK) a0) : ∃ k, laws_FnExactLogText k a0 = some true := by
  apply ev_fuel
  refine ev_congr (fun k => laws_FnExactLogText_eq k a0) ?_
  obtain ⟨v, hv, _, hB⟩ := szEntryS_ev a0 (Nat.le_trans h0.1 (by omega)) (fun x hx => ⟨(h0.2 x hx).2.1, (h0.2 x hx).2.2.1⟩) 1048576 (by omega) (by omega)
  refine ev_bind hv ?_
  by_cases hneg : v < 0
  · exact ev_if_pos hneg (ev_some _)
  refine ev_if_neg hneg ?_
  have hs := hB (by omega)
  have to := toEntryS_ev a0 hs.1
  have main : ∃ r : ByteArray × Bool, Ev (fun k => spec_LogText k a0) r ∧ Ev (fun k => impl_LogText k a0) r := by
    have s1 := specLog_ev a0 hs.1 hs.2
    have i1 := implLog_ev a0 hs.1 hs.2
    cases hg : logB a0 with
    | false =>
      rw [hg] at s1 i1
      exact ⟨(ByteArray.mk (Array.mk []), false), ev_congr (fun k => spec_LogText_eq k a0) (ev_bind s1 (ev_if_pos (by simp) (ev_some _))), ev_congr (fun k => impl_LogText_eq k a0) (ev_bind i1 (ev_if_pos (by simp) (ev_some _)))⟩
    | true =>
      rw [hg] at s1 i1
      have hall := log_all hg
      have sm : ∀ x ∈ a0, smallE x := fun x hx => entry_small (hall.1 x hx) (hs.2 x hx)
      exact ⟨(logTx a0, true), ev_congr (fun k => spec_LogText_eq k a0) (ev_bind s1 (ev_if_neg (by simp) (ev_bind (specText_ev a0 hall.2 sm) (ev_some _)))), ev_congr (fun k => impl_LogText_eq k a0) (ev_bind i1 (ev_if_neg (by simp) (ev_bind (implText_ev a0 hall.2 sm) (ev_some _))))⟩
  obtain ⟨r, b1, b2⟩ := main
  exact ev_bind to (ev_bind b1 (ev_bind to (ev_bind b2 (ev_if_neg (by simp) (ev_if_neg (by simp) (ev_bind to (ev_bind (eqEntryS_ev a0 (by omega)) (ev_if_neg (by simp) (ev_some _)))))))))

end Go.Proofs.YtaenobdphjindaaDoor.Fms
