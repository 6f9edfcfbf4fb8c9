/- What the law's functions give: the pure part. -/
import Derived.Test.YtaenobdphjindaaDoorFmAid
import Derived.Test.YtaenobdphjindaaDoorFmOpn
import Derived.Test.YtaenobdphjindaaDoorFmXFnExactTruncateLogEq
set_option autoImplicit true
set_option maxRecDepth 100000
set_option linter.unusedVariables false
set_option linter.unusedSimpArgs false
set_option linter.unnecessarySimpa false
set_option linter.unusedSectionVars false
open Go Go.Fm Go.RowKit
namespace Go.Proofs.YtaenobdphjindaaDoor.Fms
/-! ### base -/
theorem l1In_ev (n lo hi : Int) : Ev (fun k => spec_l1In k n lo hi) (decide (lo ≤ n ∧ n ≤ hi)) := ev_congr (fun k => by rw [spec_l1In_eq]) (by by_cases h : lo ≤ n <;> simp [ev_some_iff, h])

/-! ### inn -/
theorem in_ev (n lo hi : Int) : Ev (fun k => impl_in k n lo hi) (decide (lo ≤ n ∧ n ≤ hi)) := ev_congr (fun k => by rw [impl_in_eq]) (by by_cases h : lo ≤ n <;> simp [ev_some_iff, h])

/-! ### keys -/
def keyByte (b : UInt8) : Bool := (decide (97 ≤ b.toNat) && decide (b.toNat ≤ 122)) || (decide (48 ≤ b.toNat) && decide (b.toNat ≤ 57))
def keyB (s : ByteArray) : Bool := decide (1 ≤ s.size ∧ s.size ≤ 8) && s.data.toList.all keyByte
def keyCut : List UInt8 := [97, 98, 99, 100, 101, 102, 103, 104, 105, 106, 107, 108, 109, 110, 111, 112, 113, 114, 115, 116, 117, 118, 119, 120, 121, 122, 48, 49, 50, 51, 52, 53, 54, 55, 56, 57]
theorem keyCut_has (b : UInt8) : keyCut.contains b = keyByte b := by
  have h : ∀ n : Fin 256, keyCut.contains (UInt8.ofNat n.val) = keyByte (UInt8.ofNat n.val) := by decide +kernel
  have := h ⟨b.toNat, b.toNat_lt⟩
  simpa using this
theorem drop_nil {α : Type} (p : α → Bool) (l : List α) : (l.dropWhile p).isEmpty = l.all p := by
  induction l with
  | nil => rfl
  | cons x l ih => cases h : p x <;> simp [List.dropWhile_cons, h, ih]
theorem all_drop {α : Type} (p : α → Bool) (l : List α) : (l.dropWhile p).all p = l.all p := by
  induction l with
  | nil => rfl
  | cons x l ih => cases h : p x <;> simp [List.dropWhile_cons, h, ih]
theorem trim_nil (l : List UInt8) : (Go.Lib.trimS l keyCut).isEmpty = l.all keyByte := by
  unfold Go.Lib.trimS Go.Lib.trimLeftS Go.Lib.trimRightS
  rw [drop_nil, List.all_reverse, all_drop, List.all_reverse]
  congr 1
  funext b
  exact keyCut_has b
theorem mk_nil (l : List UInt8) : decide ((⟨l.toArray⟩ : ByteArray) = ByteArray.mk (Array.mk [])) = l.isEmpty := by
  cases l with
  | nil => exact decide_eq_true rfl
  | cons x l => exact decide_eq_false (fun h => by have := congrArg (fun b : ByteArray => b.data.size) h; simp at this)
theorem isKey_ev (s : ByteArray) : Ev (fun k => impl_isKey k s) (keyB s) := by
  refine ev_congr (fun k => impl_isKey_eq k s) ?_
  have e : MapW.strings_Trim.f s ⟨#[97, 98, 99, 100, 101, 102, 103, 104, 105, 106, 107, 108, 109, 110, 111, 112, 113, 114, 115, 116, 117, 118, 119, 120, 121, 122, 48, 49, 50, 51, 52, 53, 54, 55, 56, 57]⟩ = if s.size ≤ 9223372036854775807 then some ⟨(Go.Lib.trimS s.data.toList keyCut).toArray⟩ else none := by
    unfold MapW.strings_Trim.f
    by_cases h : s.size ≤ 9223372036854775807
    · rw [if_pos ⟨h, by decide, by decide⟩, if_pos h]; rfl
    · rw [if_neg (fun hh => h hh.1), if_neg h]
  simp only [e]
  unfold keyB
  by_cases h1 : (1 : Int) ≤ (s.size : Int)
  · by_cases h2 : (s.size : Int) ≤ 8
    · have h3 : 1 ≤ s.size ∧ s.size ≤ 8 := by omega
      rw [if_pos h1, if_pos h2, if_pos (by omega)]
      simp only [Option.bind_some, mk_nil, trim_nil, h3, decide_true, and_self, Bool.true_and]
      exact ev_some _
    · have h3 : ¬ (1 ≤ s.size ∧ s.size ≤ 8) := by omega
      rw [if_pos h1, if_neg h2]
      simp only [h3, decide_false, Bool.false_and]
      exact ev_some _
  · have h3 : ¬ (1 ≤ s.size ∧ s.size ≤ 8) := by omega
    rw [if_neg h1]
    simp only [h3, decide_false, Bool.false_and]
    exact ev_some _
theorem l1Key_ev (s : ByteArray) (hs : s.size ≤ 140737488355328) : Ev (fun k => spec_l1Key k s) (keyB s) := by
  have hl := size_len s
  have key := drop_ind0 s.data.toList (fun n rest => Ev (fun k => spec_l1Key_h2 k s (n : Int)) (rest.all keyByte && decide (1 ≤ s.size ∧ s.size ≤ 8))) ?_ ?_
  · refine ev_congr (fun k => spec_l1Key_eq k s) ?_
    unfold keyB
    rw [Bool.and_comm]
    exact key
  · refine ev_shift ?_
    simp only [spec_l1Key_h2_eq, ev_ite_iff, ev_bind_iff (l1In_ev _ _ _), ev_some_iff]
    rw [← hl, if_neg (by omega)]
    simp only [List.all_nil, Bool.true_and]
    congr 1
    exact propext ⟨fun h => by omega, fun h => by omega⟩
  · intro n b rest hn hx hd ih
    refine ev_shift ?_
    simp only [spec_l1Key_h2_eq, bt_nat hx, wrap_nat (show n < 9223372036854775807 by omega), ev_ite_iff, ev_some_iff, ev_none_iff, List.all_cons]
    rw [if_pos (by omega), if_pos (by omega), if_pos (by omega)]
    cases hp : keyByte b with
    | true =>
      simp only [Bool.true_and]
      simp only [keyByte, Bool.or_eq_true, Bool.and_eq_true, decide_eq_true_eq] at hp
      split
      · split
        · exact ih
        · rw [if_pos (by omega), if_neg (by omega)]; exact ih
      · rw [if_pos (by omega), if_neg (by omega)]; exact ih
    | false =>
      simp only [keyByte, Bool.or_eq_false_iff, Bool.and_eq_false_iff, decide_eq_false_iff_not] at hp
      simp only [Bool.false_and]
      split
      · rw [if_neg (by omega)]
        split
        · rw [if_pos (by omega)]; trivial
        · trivial
      · split
        · rw [if_pos (by omega)]; trivial
        · trivial

/-! ### allloop -/
/-! a loop that asks the same of each -/
def allFrom {α : Type} (p : Nat → α → Bool) : Nat → List α → Bool
  | _, [] => true
  | n, x :: l => p n x && allFrom p (n + 1) l
theorem allFrom_iff {α : Type} {p : Nat → α → Bool} : ∀ {l : List α} {n : Nat}, allFrom p n l = true ↔ ∀ i x, l[i]? = some x → p (n + i) x = true
  | [], n => by simp [allFrom]
  | x :: l, n => by
    simp only [allFrom, Bool.and_eq_true, allFrom_iff (l := l)]
    constructor
    · rintro ⟨h1, h2⟩ i y hy
      cases i with
      | zero => simp at hy; subst hy; exact h1
      | succ i => rw [show n + (i + 1) = n + 1 + i by omega]; exact h2 i y (by simpa using hy)
    · intro h
      refine ⟨h 0 x (by simp), fun i y hy => ?_⟩
      rw [show n + 1 + i = n + (i + 1) by omega]
      exact h (i + 1) y (by simpa using hy)
theorem all_loop {α : Type} (xs : List α) (H : Nat → Int → Option Bool) (p : Nat → α → Bool) (r : Bool) (hend : Ev (fun k => H k (xs.length : Int)) r)
    (hstep : ∀ n x v, n < xs.length → xs[n]? = some x → Ev (fun k => H k ((n + 1 : Nat) : Int)) v → Ev (fun k => H (k + 1) (n : Int)) (p n x && v)) : Ev (fun k => H k 0) (allFrom p 0 xs && r) := by
  have := drop_ind0 xs (fun n rest => Ev (fun k => H k (n : Int)) (allFrom p n rest && r)) (by simpa [allFrom] using hend) (fun n x rest hn hx _ ih => ?_)
  · simpa using this
  · refine ev_shift ?_
    have h := hstep n x _ hn hx ih
    rw [← Bool.and_assoc] at h
    exact h

/-! ### value -/
def chB (b : UInt8) : Bool := decide (32 ≤ b.toNat) && (decide (b.toNat ≤ 126) && !decide (b.toNat = 59))
def valB (s : ByteArray) : Bool := allFrom (fun _ b => chB b) 0 s.data.toList && decide (s.size ≤ 20)
theorem isValue_ev (s : ByteArray) (hs : s.size ≤ 140737488355328) : Ev (fun k => impl_isValue k s) (valB s) := by
  have hl := size_len s
  refine ev_congr (fun k => impl_isValue_eq k s) ?_
  refine all_loop s.data.toList (fun k i => impl_isValue_h2 k s (s.size : Int) i) (fun _ b => chB b) (decide (s.size ≤ 20)) ?_ ?_
  · refine ev_shift ?_
    simp only [impl_isValue_h2_eq, ev_ite_iff, ev_some_iff]
    rw [← hl, if_neg (by omega)]
    congr 1
    exact propext ⟨fun h => by omega, fun h => by omega⟩
  · intro n b v hn hx hv
    simp only [impl_isValue_h2_eq, bt_nat hx, wrap_nat (show n < 9223372036854775807 by omega), ev_ite_iff, ev_some_iff, ev_none_iff]
    have e0 : (0 : Int) ≤ (n : Int) := by omega
    have e1 : (n : Int) < (s.size : Int) := by omega
    simp only [if_pos e0, if_pos e1]
    unfold chB
    by_cases h1 : (b.toNat : Int) < 32
    · rw [if_pos h1]; simp [show ¬ 32 ≤ b.toNat by omega]
    · rw [if_neg h1]
      by_cases h2 : 126 < (b.toNat : Int)
      · rw [if_pos h2]; simp [show ¬ b.toNat ≤ 126 by omega]
      · rw [if_neg h2]
        by_cases h3 : (b.toNat : Int) = 59
        · rw [if_pos h3]; simp [show b.toNat = 59 by omega]
        · rw [if_neg h3]
          simpa [show 32 ≤ b.toNat by omega, show b.toNat ≤ 126 by omega, show ¬ b.toNat = 59 by omega] using hv
theorem l1Value_ev (s : ByteArray) (hs : s.size ≤ 140737488355328) : Ev (fun k => spec_l1Value k s) (valB s) := by
  have hl := size_len s
  refine ev_congr (fun k => spec_l1Value_eq k s) ?_
  refine all_loop s.data.toList (fun k i => spec_l1Value_h2 k s i) (fun _ b => chB b) (decide (s.size ≤ 20)) ?_ ?_
  · refine ev_shift ?_
    simp only [spec_l1Value_h2_eq, ev_ite_iff, ev_some_iff]
    rw [← hl, if_neg (by omega)]
    congr 1
    exact propext ⟨fun h => by omega, fun h => by omega⟩
  · intro n b v hn hx hv
    simp only [spec_l1Value_h2_eq, bt_nat hx, wrap_nat (show n < 9223372036854775807 by omega), ev_ite_iff, ev_some_iff, ev_none_iff]
    have e0 : (0 : Int) ≤ (n : Int) := by omega
    have e1 : (n : Int) < (s.size : Int) := by omega
    simp only [if_pos e0, if_pos e1]
    unfold chB
    by_cases h1 : (b.toNat : Int) < 32
    · rw [if_pos h1]; simp [show ¬ 32 ≤ b.toNat by omega]
    · rw [if_neg h1]
      by_cases h2 : 126 < (b.toNat : Int)
      · rw [if_pos h2]; simp [show ¬ b.toNat ≤ 126 by omega]
      · rw [if_neg h2]
        by_cases h3 : (b.toNat : Int) = 59
        · rw [if_pos h3]; simp [show b.toNat = 59 by omega]
        · rw [if_neg h3]
          simpa [show 32 ≤ b.toNat by omega, show b.toNat ≤ 126 by omega, show ¬ b.toNat = 59 by omega] using hv

/-! ### tid0 -/
abbrev TidT := Int × Int × Bool
abbrev TidK : Kind := .struct (.pair (.int .i64) (.pair (.int .i64) .bool))
def tidB (t : TidT) : Bool := decide (0 ≤ t.1 ∧ t.1 ≤ 1048575) && decide (0 ≤ t.2.1 ∧ t.2.1 ≤ 16777215)
theorem isTid_ev (t : TidT) : Ev (fun k => impl_isTid k t) (tidB t) := by
  refine ev_congr (fun k => impl_isTid_eq k t) ?_
  simp only [ev_bind_iff (in_ev _ _ _), ev_ite_iff, ev_some_iff, tidB]
  by_cases h : 0 ≤ t.1 ∧ t.1 ≤ 1048575 <;> simp [h]
theorem l1Tid_ev (t : TidT) : Ev (fun k => spec_l1Tid k t) (tidB t) := by
  refine ev_congr (fun k => spec_l1Tid_eq k t) ?_
  simp only [ev_bind_iff (l1In_ev _ _ _), ev_ite_iff, ev_some_iff, tidB]
  by_cases h : 0 ≤ t.1 ∧ t.1 ≤ 1048575 <;> simp [h]

/-! ### tid -/
theorem toTid_ev (x : TidT) : Ev (fun k => laws_toTid k x) x := ev_congr (fun k => laws_toTid_eq k x) (ev_some x)

/-! ### tideq -/
theorem eqTid_ev (x : TidT) : Ev (fun k => laws_eqTid k x x) true := ev_congr (fun k => laws_eqTid_eq k x x) (by simp [ev_some_iff])

/-! ### sz2 -/
/-! two texts weigh what they weigh -/
theorem sz2 {F : Nat → Int → Option Int} {p q : ByteArray} (hp : p.size ≤ 140737488351232) (hq : q.size ≤ 140737488351232) (hs : ∀ k a, F k a = (if (wrap64 (a - (p.size : Int))) < 0 then some (-1) else (if (wrap64 ((wrap64 (a - (p.size : Int))) - (q.size : Int))) < 0 then some (-1) else some (wrap64 ((wrap64 (a - (p.size : Int))) - (q.size : Int))))))
    (a : Int) (h0 : 0 ≤ a) (h1 : a ≤ 1048576) : ∃ v, Ev (fun k => F k a) v ∧ v ≤ a ∧ (0 ≤ v → p.size ≤ 1048576 ∧ q.size ≤ 1048576) := by
  have w : wrap64 (a - (p.size : Int)) = a - p.size := wrap_of (by omega) (by omega)
  have w2 : wrap64 (a - (p.size : Int) - (q.size : Int)) = a - p.size - q.size := wrap_of (by omega) (by omega)
  by_cases h : a - (p.size : Int) < 0
  · exact ⟨-1, ev_congr (fun k => by rw [hs, w, if_pos h]) (ev_some _), by omega, fun h => by omega⟩
  · by_cases h' : a - (p.size : Int) - (q.size : Int) < 0
    · exact ⟨-1, ev_congr (fun k => by rw [hs, w, if_neg h, w2, if_pos h']) (ev_some _), by omega, fun h => by omega⟩
    · exact ⟨_, ev_congr (fun k => by rw [hs, w, if_neg h, w2, if_neg h']) (ev_some _), by omega, fun _ => by omega⟩

/-! ### mtext -/
theorem wrap_i64 {x : Int} (h0 : -9223372036854775808 ≤ x) (h1 : x ≤ 9223372036854775807) : IntKind.wrap .i64 x = x := by
  rw [← wrapK_eq]; unfold wrapK; rw [if_pos rfl]; exact wrap_of h0 h1
theorem catS_size0 (a b : ByteArray) : (catS a b).size = a.size + b.size := by
  show (catS a b).data.size = a.data.size + b.data.size
  simp [catS]
theorem mt_ex : ∀ (n : Nat) (acc : ByteArray), acc.size + n ≤ 1099511627776 → ∃ r, Ev (fun k => laws_markText_h4 k (n : Int) acc) r := by
  intro n
  induction n using Nat.strongRecOn with
  | ind n ih =>
    intro acc ha
    by_cases h0 : n = 0
    · subst h0
      refine ⟨catS (ByteArray.mk (Array.mk (List.cons 109 []))) acc, ev_last fun k => ?_⟩
      rw [laws_markText_h4_eq, if_neg (by omega), if_pos (by have : (ByteArray.mk (Array.mk (List.cons 109 []))).size = 1 := rfl; omega)]
    · have hd : Int.tdiv (n : Int) 10 = ((n / 10 : Nat) : Int) := by rw [Int.tdiv_eq_ediv_of_nonneg (by omega)]; omega
      obtain ⟨r, hr⟩ := ih (n / 10) (by omega) (catS (bytesOf [IntKind.wrap .u8 (wrap64 (48 + Int.tmod (n : Int) 10))]) acc) (by
        rw [catS_size0]
        have : (bytesOf [IntKind.wrap .u8 (wrap64 (48 + Int.tmod (n : Int) 10))]).size = 1 := rfl
        omega)
      refine ⟨r, ev_shift ?_⟩
      simp only [laws_markText_h4_eq, ev_ite_iff, hd, wrap_i64 (x := ((n / 10 : Nat) : Int)) (by omega) (by omega)]
      have : (bytesOf [IntKind.wrap .u8 (wrap64 (48 + Int.tmod (n : Int) 10))]).size = 1 := rfl
      rw [if_pos (by omega), if_pos (by omega)]
      exact hr
theorem mark_ex (n : Int) (hn : n ≤ 1073741824) : ∃ r, Ev (fun k => laws_markText k n) r := by
  by_cases h : n ≤ 0
  · exact ⟨_, ev_congr (fun k => laws_markText_eq k n) (ev_if_pos h (ev_some _))⟩
  · obtain ⟨r, hr⟩ := mt_ex n.toNat (ByteArray.mk (Array.mk [])) (by have : (ByteArray.mk (Array.mk [])).size = 0 := rfl; omega)
    refine ⟨r, ev_congr (fun k => laws_markText_eq k n) (ev_if_neg h ?_)⟩
    rw [show ((n.toNat : Nat) : Int) = n by omega] at hr
    exact hr
open Classical in
noncomputable def mtx (n : Int) : ByteArray := if h : ∃ r, Ev (fun k => laws_markText k n) r then Classical.choose h else ByteArray.mk (Array.mk [])
theorem mtx_ev (n : Int) (hn : n ≤ 1073741824) : Ev (fun k => laws_markText k n) (mtx n) := by
  have h := mark_ex n hn
  unfold mtx
  rw [dif_pos h]
  exact Classical.choose_spec h

/-! ### entry -/
abbrev EntT := Int × ByteArray × ByteArray × TidT
abbrev EntK : Kind := .struct (.pair (.int .i64) (.pair .str (.pair .str TidK)))
def szokEntry (x : EntT) : Prop := x.2.1.size ≤ 140737488351232 ∧ x.2.2.1.size ≤ 140737488351232
def szBEntry (x : EntT) : Prop := x.2.1.size ≤ 1048576 ∧ x.2.2.1.size ≤ 1048576
theorem szEntry_ev (x : EntT) (hx : szokEntry x) (a : Int) (h0 : 0 ≤ a) (ha : a ≤ 1048576) : ∃ v, Ev (fun k => laws_szEntry k x a) v ∧ v ≤ a ∧ (0 ≤ v → szBEntry x) := sz2 hx.1 hx.2 (fun k a => laws_szEntry_eq k x a) a h0 ha
theorem toEntry_ev (x : EntT) : Ev (fun k => laws_toEntry k x) x := ev_congr (fun k => laws_toEntry_eq k x) (ev_bind (toTid_ev _) (ev_some x))
theorem eqEntry_ev (x : EntT) : Ev (fun k => laws_eqEntry k x x) true := ev_congr (fun k => laws_eqEntry_eq k x x) (ev_if_neg (by simp) (ev_if_neg (by simp) (ev_if_neg (by simp) (ev_bind (eqTid_ev _) (ev_if_neg (by simp) (ev_some _))))))
theorem szEntryS_ev (l) (hl : l.length ≤ 140737488355328) (hk : ∀ x ∈ l, szokEntry x) (a : Int) (h0 : 0 ≤ a) (h1 : a ≤ 1048576) : ∃ v, Ev (fun k => laws_szEntryS k l a) v ∧ v ≤ a ∧ (0 ≤ v → l.length ≤ 1048576 ∧ ∀ x ∈ l, szBEntry x) :=
  sz_top (fun k l a => laws_szEntryS_eq k l a) (sz_row (fun k l a i => laws_szEntryS_h5_eq k l a i) (fun x hx a h0 h1 => szEntry_ev x (hk x hx) a h0 h1) (by omega)) hl a h0 h1
theorem toEntryS_ev (l) (hl : l.length ≤ 1048576) : Ev (fun k => laws_toEntryS k l) l := by
  refine ev_congr (fun k => laws_toEntryS_eq k l) ?_
  simp only [ev_ite_iff]
  rw [if_pos trivial, if_pos (by omega)]
  simpa using to_row (l := l) (cv := id) (z := _) (fun k l r i => laws_toEntryS_h3_eq k l r i) (fun x _ => toEntry_ev x) (by omega)
theorem eqEntryS_ev (l) (hl : l.length ≤ 140737488355328) : Ev (fun k => laws_eqEntryS k l l) true := by
  refine ev_congr (fun k => laws_eqEntryS_eq k l l) ?_
  simp only [ev_ite_iff]
  rw [if_neg (by simp)]
  exact eq_row (l := l) (fun k a b i => laws_eqEntryS_h4_eq k a b i) (fun x _ => eqEntry_ev x) (by omega)
/-! good entries, good logs -/
def nilTid (t : TidT) : Bool := Bool.and (decide (t.1 = 0)) (Bool.and (decide (t.2.1 = 0)) (decide (t.2.2 = false)))
def sameTid (a b : TidT) : Bool := Bool.and (decide (a.1 = b.1)) (Bool.and (decide (a.2.1 = b.2.1)) (decide (a.2.2 = b.2.2)))
theorem sameTid_iff (a b : TidT) : sameTid a b = true ↔ a = b := by
  unfold sameTid
  simp only [Bool.and_eq_true, decide_eq_true_eq]
  constructor
  · rintro ⟨h1, h2, h3⟩
    exact Prod.ext h1 (Prod.ext h2 h3)
  · rintro rfl; exact ⟨rfl, rfl, rfl⟩
theorem sameTid_comm (a b : TidT) : sameTid a b = sameTid b a := by
  rw [Bool.eq_iff_iff, sameTid_iff, sameTid_iff]
  exact ⟨Eq.symm, Eq.symm⟩
def entryB (x : EntT) : Bool := decide (0 ≤ x.1 ∧ x.1 ≤ 65535) && (keyB x.2.1 && (valB x.2.2.1 && (tidB x.2.2.2 && (!x.2.2.2.2.2 && !nilTid x.2.2.2))))
theorem l6Entry_ev (x : EntT) (h : szBEntry x) : Ev (fun k => spec_l6Entry k x) (entryB x) := by
  refine ev_congr (fun k => spec_l6Entry_eq k x) ?_
  have e : Bool.and (decide (x.2.2.2.1 = 0)) (Bool.and (decide (x.2.2.2.2.1 = 0)) (decide (x.2.2.2.2.2 = false))) = nilTid x.2.2.2 := rfl
  simp only [ev_bind_iff (l1In_ev _ _ _), ev_bind_iff (l1Key_ev x.2.1 (Nat.le_trans h.1 (by omega))), ev_bind_iff (l1Value_ev x.2.2.1 (Nat.le_trans h.2 (by omega))), ev_bind_iff (l1Tid_ev _), ev_ite_iff, ev_some_iff, e]
  unfold entryB
  generalize nilTid x.2.2.2 = nb
  by_cases c1 : 0 ≤ x.1 ∧ x.1 ≤ 65535 <;> cases keyB x.2.1 <;> cases valB x.2.2.1 <;> cases tidB x.2.2.2 <;> cases x.2.2.2.2.2 <;> cases nb <;> simp [c1]
theorem isEntry_ev (x : EntT) (h : szBEntry x) : Ev (fun k => impl_isEntry k x) (entryB x) := by
  refine ev_congr (fun k => impl_isEntry_eq k x) ?_
  have e : Bool.and (decide (x.2.2.2.1 = 0)) (Bool.and (decide (x.2.2.2.2.1 = 0)) (decide (x.2.2.2.2.2 = false))) = nilTid x.2.2.2 := rfl
  simp only [ev_bind_iff (in_ev _ _ _), ev_bind_iff (isKey_ev x.2.1), ev_bind_iff (isValue_ev x.2.2.1 (Nat.le_trans h.2 (by omega))), ev_bind_iff (isTid_ev _), ev_ite_iff, ev_some_iff, e]
  unfold entryB
  generalize nilTid x.2.2.2 = nb
  by_cases c1 : 0 ≤ x.1 ∧ x.1 ≤ 65535 <;> cases keyB x.2.1 <;> cases valB x.2.2.1 <;> cases tidB x.2.2.2 <;> cases x.2.2.2.2.2 <;> cases nb <;> simp [c1]
def alikeB (x o : EntT) : Bool := !(decide (o.2.1 = x.2.1) && (sameTid o.2.2.2 x.2.2.2 && !decide (o.2.2.1 = x.2.2.1)))
theorem alike_loop {H : Nat → Int → Option Bool} (p : List EntT) (x : EntT) (r : Bool) (hend : Ev (fun k => H k (p.length : Int)) r)
    (hstep : ∀ n o v, n < p.length → p[n]? = some o → Ev (fun k => H k ((n + 1 : Nat) : Int)) v → Ev (fun k => H (k + 1) (n : Int)) (alikeB x o && v)) : Ev (fun k => H k 0) (p.all (alikeB x) && r) := by
  have := all_loop p H (fun _ o => alikeB x o) r hend hstep
  have e : ∀ (l : List EntT) (n : Nat), allFrom (fun _ o => alikeB x o) n l = l.all (alikeB x) := by
    intro l
    induction l with
    | nil => intro n; rfl
    | cons o l ih => intro n; simp only [allFrom, ih, List.all_cons]
  rw [e] at this
  exact this
def logFrom (p : List EntT) : List EntT → Bool
  | [] => true
  | x :: r => entryB x && (p.all (alikeB x) && logFrom (p ++ [x]) r)
def alikeFrom (p : List EntT) : List EntT → Bool
  | [] => true
  | x :: r => p.all (alikeB x) && alikeFrom (p ++ [x]) r
def logB (l : List EntT) : Bool := logFrom [] l && decide (l.length ≤ 80)
theorem logFrom_two : ∀ (r p : List EntT), logFrom p r = (r.all entryB && alikeFrom p r)
  | [], _ => rfl
  | x :: r, p => by
    simp only [logFrom, alikeFrom, List.all_cons, logFrom_two r]
    cases entryB x <;> cases p.all (alikeB x) <;> cases r.all entryB <;> simp
theorem dec_eighty (n : Nat) : decide ((n : Int) ≤ 80) = decide (n ≤ 80) := by by_cases h : n ≤ 80 <;> simp [h] <;> omega
theorem specLog_ev (l : List EntT) (hl : l.length ≤ 1048576) (hk : ∀ x ∈ l, szBEntry x) : Ev (fun k => spec_GoodLog k l) (logB l) := by
  refine ev_congr (fun k => spec_GoodLog_eq k l) ?_
  refine drop_ind0 l (fun n rest => Ev (fun k => spec_GoodLog_h2 k l l (l.length : Int) (n : Int)) (logFrom (l.take n) rest && decide (l.length ≤ 80))) ?_ ?_
  · exact ev_last fun k => by rw [spec_GoodLog_h2_eq, if_neg (by omega)]; simp [logFrom, dec_eighty]
  · intro n x rest hn hx _ ih
    rw [take_snoc hx] at ih
    have hlen : (l.take n).length = n := by simp; omega
    have hsl : (List.drop (Int.toNat 0) (List.take (Int.toNat (n : Int)) l)) = l.take n := by simp
    have inner : Ev (fun k => spec_GoodLog_h7 k l x l (l.length : Int) (n : Int) (l.take n) ((l.take n).length : Int) 0) ((l.take n).all (alikeB x) && (logFrom (l.take n ++ [x]) rest && decide (l.length ≤ 80))) := by
      refine alike_loop (H := fun k i => spec_GoodLog_h7 k l x l (l.length : Int) (n : Int) (l.take n) ((l.take n).length : Int) i) (l.take n) x _ ?_ ?_
      · refine ev_shift ?_
        simp only [spec_GoodLog_h7_eq, wrap_nat (show n < 9223372036854775807 by omega), ev_ite_iff]
        rw [if_neg (by omega)]
        exact ih
      · intro j o v hj ho H
        have q0 : (0 : Int) ≤ (j : Int) := by omega
        have q1 : (j : Int) < ((l.take n).length : Int) := by omega
        have e : Bool.and (decide (o.2.2.2.1 = x.2.2.2.1)) (Bool.and (decide (o.2.2.2.2.1 = x.2.2.2.2.1)) (decide (o.2.2.2.2.2 = x.2.2.2.2.2))) = sameTid o.2.2.2 x.2.2.2 := rfl
        simp only [spec_GoodLog_h7_eq, rdT_get (e := EntK) ho, wrap_nat (show j < 9223372036854775807 by omega), ev_ite_iff, ev_none_iff, ev_some_iff, e]
        rw [if_pos q1, if_pos q0, if_pos q1]
        unfold alikeB
        by_cases a1 : o.2.1 = x.2.1
        · by_cases a2 : sameTid o.2.2.2 x.2.2.2 = true
          · by_cases a3 : o.2.2.1 = x.2.2.1
            · simpa [a1, a2, a3] using H
            · simp [a1, a2, a3]
          · simpa [a1, a2] using H
        · simpa [a1] using H
    have q0 : (0 : Int) ≤ (n : Int) := by omega
    have q1 : (n : Int) < (l.length : Int) := by omega
    have q2 : (n : Int) ≤ (l.length : Int) := by omega
    refine ev_shift ?_
    simp only [spec_GoodLog_h2_eq, rdT_get (e := EntK) hx, hsl, ev_bind_iff (l6Entry_ev x (hk x (List.mem_of_getElem? hx))), ev_ite_iff, ev_none_iff, ev_some_iff]
    rw [if_pos q1, if_pos q0, if_pos q1]
    have hno : (logFrom (l.take n) (x :: rest) && decide (l.length ≤ 80)) = (entryB x && ((l.take n).all (alikeB x) && (logFrom (l.take n ++ [x]) rest && decide (l.length ≤ 80)))) := by simp only [logFrom, Bool.and_assoc]
    rw [hno]
    by_cases hb : entryB x = true
    · rw [if_neg (by simp [hb]), if_pos q0, if_pos q2, hb, Bool.true_and]
      exact inner
    · rw [if_pos (by simp [hb])]
      simp [hb]
theorem isLog1_ev (x : EntT) (h : szBEntry x) : Ev (fun k => impl_isLog_1 k x) (!entryB x) := by
  refine ev_congr (fun k => impl_isLog_1_eq k x) ?_
  simp only [ev_bind_iff (isEntry_ev x h), ev_some_iff]
theorem idx_nonneg {α : Type} (p : α → Bool) : ∀ (l : List α) (n : Nat), decide (0 ≤ idxFrom p n l) = l.any p
  | [], n => rfl
  | x :: l, n => by
    rw [List.any_cons, ← idx_nonneg p l (n + 1), idxFrom]
    by_cases h : p x = true <;> simp [h]
theorem hasBad_ev (l : List EntT) (hl : l.length ≤ 1048576) (hk : ∀ x ∈ l, szBEntry x) : Ev (fun k => slices_ContainsFunc k l ()) (l.any fun x => !entryB x) := by
  have key := drop_ind0 l (fun n rest => Ev (fun k => slices_IndexFunc_h2 k l () (l.length : Int) (n : Int)) (idxFrom (fun x => !entryB x) n rest)) ?_ ?_
  · refine ev_congr (fun k => slices_ContainsFunc_eq k l _) ?_
    simp only [ev_bind_iff (ev_congr (fun k => slices_IndexFunc_eq k l ()) key), ev_some_iff, idx_nonneg]
  · exact ev_last fun k => by rw [slices_IndexFunc_h2_eq, if_neg (by omega)]; rfl
  · intro n x rest hn hx _ ih
    have q0 : (0 : Int) ≤ (n : Int) := by omega
    have q1 : (n : Int) < (l.length : Int) := by omega
    refine ev_shift ?_
    simp only [slices_IndexFunc_h2_eq, ev_bind_iff (isLog1_ev x (hk x (List.mem_of_getElem? hx))), rdT_get (e := EntK) hx, wrap_nat (show n < 9223372036854775807 by omega), ev_ite_iff, ev_none_iff, ev_some_iff, idxFrom]
    rw [if_pos q1, if_pos q0, if_pos q1]
    by_cases h1 : entryB x = true
    · rw [if_neg (by simp [h1]), if_neg (by simp [h1])]
      exact ih
    · rw [if_pos (by simp [h1]), if_pos (by simp [h1])]
theorem areAlike_ev (l : List EntT) (hl : l.length ≤ 1048576) : Ev (fun k => impl_areAlike k l) (alikeFrom [] l) := by
  refine ev_congr (fun k => impl_areAlike_eq k l) ?_
  refine drop_ind0 l (fun n rest => Ev (fun k => impl_areAlike_h2 k l l (l.length : Int) (n : Int)) (alikeFrom (l.take n) rest)) ?_ ?_
  · exact ev_last fun k => by rw [impl_areAlike_h2_eq, if_neg (by omega)]; rfl
  · intro n x rest hn hx _ ih
    rw [take_snoc hx] at ih
    have hlen : (l.take n).length = n := by simp; omega
    have hsl : (List.drop (Int.toNat 0) (List.take (Int.toNat (n : Int)) l)) = l.take n := by simp
    have inner : Ev (fun k => impl_areAlike_h5 k l x l (l.length : Int) (n : Int) (l.take n) ((l.take n).length : Int) 0) ((l.take n).all (alikeB x) && alikeFrom (l.take n ++ [x]) rest) := by
      refine alike_loop (H := fun k i => impl_areAlike_h5 k l x l (l.length : Int) (n : Int) (l.take n) ((l.take n).length : Int) i) (l.take n) x _ ?_ ?_
      · refine ev_shift ?_
        simp only [impl_areAlike_h5_eq, wrap_nat (show n < 9223372036854775807 by omega), ev_ite_iff]
        rw [if_neg (by omega)]
        exact ih
      · intro j o v hj ho H
        have q0 : (0 : Int) ≤ (j : Int) := by omega
        have q1 : (j : Int) < ((l.take n).length : Int) := by omega
        have e : Bool.and (decide (x.2.2.2.1 = o.2.2.2.1)) (Bool.and (decide (x.2.2.2.2.1 = o.2.2.2.2.1)) (decide (x.2.2.2.2.2 = o.2.2.2.2.2))) = sameTid o.2.2.2 x.2.2.2 := sameTid_comm x.2.2.2 o.2.2.2
        simp only [impl_areAlike_h5_eq, rdT_get (e := EntK) ho, wrap_nat (show j < 9223372036854775807 by omega), ev_ite_iff, ev_none_iff, ev_some_iff, e]
        rw [if_pos q1, if_pos q0, if_pos q1]
        unfold alikeB
        by_cases a1 : o.2.1 = x.2.1
        · by_cases a2 : sameTid o.2.2.2 x.2.2.2 = true
          · by_cases a3 : o.2.2.1 = x.2.2.1
            · simpa [a1, a2, a3] using H
            · simp [a1, a2, a3, Ne.symm a3]
          · simpa [a1, a2] using H
        · simpa [a1, Ne.symm a1] using H
    have q0 : (0 : Int) ≤ (n : Int) := by omega
    have q1 : (n : Int) < (l.length : Int) := by omega
    have q2 : (n : Int) ≤ (l.length : Int) := by omega
    refine ev_shift ?_
    simp only [impl_areAlike_h2_eq, rdT_get (e := EntK) hx, hsl, ev_ite_iff, ev_none_iff]
    rw [if_pos q1, if_pos q0, if_pos q1, if_pos q0, if_pos q2]
    exact inner
theorem implLog_ev (l : List EntT) (hl : l.length ≤ 1048576) (hk : ∀ x ∈ l, szBEntry x) : Ev (fun k => impl_isLog k l) (logB l) := by
  refine ev_congr (fun k => impl_isLog_eq k l) ?_
  simp only [ev_bind_iff (hasBad_ev l hl hk), ev_bind_iff (areAlike_ev l hl), ev_ite_iff, ev_some_iff]
  unfold logB
  rw [logFrom_two]
  have e : (l.any fun x => !entryB x) = !l.all entryB := by
    rw [Bool.eq_iff_iff]
    simp
  rw [e]
  by_cases h8 : l.length ≤ 80
  · rw [if_pos (by omega)]
    cases l.all entryB <;> simp [h8]
  · rw [if_neg (by omega)]
    simp [h8]
theorem log_all {l : List EntT} (h : logB l = true) : (∀ x ∈ l, entryB x = true) ∧ l.length ≤ 80 := by
  unfold logB at h
  rw [logFrom_two] at h
  simp only [Bool.and_eq_true, List.all_eq_true, decide_eq_true_eq] at h
  exact ⟨h.1.1, h.2⟩

/-! ### markentry -/
noncomputable def emEntry (m : Int) : EntT := (m, mtx (m + 1), mtx (m + 2), m + 3, m + 4, decide (Int.tmod (m + 5) 3 = 0))
theorem upEntry {xs : List EntT} {n : Nat} {x : EntT} (hx : xs[n]? = some x) (v0 : Int) (v1 v2 : ByteArray) (v3 v4 : Int) (v5 : Bool) :
    upAt EntK [3, 2] .bool v5 (upAt EntK [3, 1] (.int .i64) v4 (upAt EntK [3, 0] (.int .i64) v3 (upAt EntK [2] .str v2 (upAt EntK [1] .str v1 (upAt EntK [0] (.int .i64) v0 xs (n : Int)) (n : Int)) (n : Int)) (n : Int)) (n : Int)) (n : Int)
      = xs.set n (v0, v1, v2, v3, v4, v5) := by
  have hn : n < xs.length := (List.getElem?_eq_some_iff.1 hx).1
  rw [upAt_get (e := EntK) (k := .int .i64) (w := (v0, x.2)) hx rfl, upAt_set (e := EntK) (k := .str) (w := (v0, v1, x.2.2)) hn rfl, upAt_set (e := EntK) (k := .str) (w := (v0, v1, v2, x.2.2.2)) hn rfl, upAt_set (e := EntK) (k := .int .i64) (w := (v0, v1, v2, v3, x.2.2.2.2)) hn rfl, upAt_set (e := EntK) (k := .int .i64) (w := (v0, v1, v2, v3, v4, x.2.2.2.2.2)) hn rfl, upAt_set (e := EntK) (k := .bool) (w := (v0, v1, v2, v3, v4, v5)) hn rfl]
theorem upLenEntry (p : List Nat) (k : Kind) (y : k.T) (l : List EntT) (i : Int) : @List.length EntT (upAt EntK p k y l i) = @List.length EntT l := upAt_len (e := EntK)
theorem incs6 (c : Int) (h0 : 0 ≤ c) (h1 : c ≤ 1073741824) : wrap64 (c + 1) = c + 1 ∧ wrap64 (c + 1 + 1) = c + 2 ∧ wrap64 (c + 2 + 1) = c + 3 ∧ wrap64 (c + 3 + 1) = c + 4 ∧ wrap64 (c + 4 + 1) = c + 5 ∧ wrap64 (c + 5 + 1) = c + 6 := by
  refine ⟨?_, ?_, ?_, ?_, ?_, ?_⟩ <;> (rw [wrap_of (by omega) (by omega)]; try omega)
theorem markEntryS_ev (l : List EntT) (m : Int) (h0 : 0 ≤ m) (hm : m + 6 * l.length ≤ 1073741824) : Ev (fun k => laws_markEntryS k l m) (mkList emEntry m 6 l.length, m + 6 * (l.length : Int)) := by
  refine ev_congr (fun k => laws_markEntryS_eq k l m) ?_
  refine mark_loop (fun k l c i => laws_markEntryS_h2 k l c i) emEntry m 6 l.length (fun k xs c hx => ?_) (fun n xs r hn hx H => ?_) l rfl
  · rw [laws_markEntryS_h2_eq, if_neg (by omega)]
  · obtain ⟨e1, e2, e3, e4, e5, e6⟩ := incs6 (m + 6 * (n : Int)) (by omega) (by omega)
    have hnx : n < xs.length := by omega
    have hg : xs[n]? = some xs[n] := List.getElem?_eq_getElem hnx
    generalize xs[n] = x at hg
    have d1 : (n : Int) < (l.length : Int) := by omega
    have d2 : (n : Int) < (xs.length : Int) := by omega
    have d3 : (0 : Int) ≤ (n : Int) := by omega
    have e10 : m + 6 * (n : Int) + 6 = m + 6 * ((n + 1 : Nat) : Int) := by omega
    refine ev_shift ?_
    simp only [laws_markEntryS_h2_eq, ev_ite_iff, e1, e2, e3, e4, e5, e6, wrap_nat (show n < 9223372036854775807 by omega), upLenEntry, if_pos d2, if_pos d3, ev_bind_iff (mtx_ev (m + 6 * (n : Int) + 1) (by omega)), ev_bind_iff (mtx_ev (m + 6 * (n : Int) + 2) (by omega)), upEntry hg, e10]
    exact H

/-! ### bsearch -/
/-! texts in their order -/
theorem bl_irrefl : ∀ x : List UInt8, Op.bytesLess x x = false
  | [] => rfl
  | a :: x => by simp [Op.bytesLess, bl_irrefl x]
theorem bl_trans : ∀ {x y z : List UInt8}, Op.bytesLess x y = true → Op.bytesLess y z = true → Op.bytesLess x z = true
  | x, y, [], _, h => by cases y <;> simp [Op.bytesLess] at h
  | x, [], c :: z, h, _ => by cases x <;> simp [Op.bytesLess] at h
  | [], b :: y, c :: z, _, _ => rfl
  | a :: x, b :: y, c :: z, h1, h2 => by
    simp only [Op.bytesLess, Bool.or_eq_true, Bool.and_eq_true, decide_eq_true_eq, beq_iff_eq] at h1 h2 ⊢
    rcases h1 with h1 | ⟨rfl, h1⟩
    · rcases h2 with h2 | ⟨rfl, h2⟩
      · exact .inl (UInt8.lt_trans h1 h2)
      · exact .inl h1
    · rcases h2 with h2 | ⟨rfl, h2⟩
      · exact .inl h2
      · exact .inr ⟨rfl, bl_trans h1 h2⟩
theorem cmp_facts : ∀ (x y : List UInt8), (Go.Lib.compareBytes x y < 0 ↔ Op.bytesLess x y = true) ∧ (Go.Lib.compareBytes x y = 0 ↔ x = y)
  | [], [] => by simp [Go.Lib.compareBytes, Op.bytesLess]
  | [], _ :: _ => by simp [Go.Lib.compareBytes, Op.bytesLess]
  | _ :: _, [] => by simp [Go.Lib.compareBytes, Op.bytesLess]
  | a :: x, b :: y => by
    obtain ⟨h1, h2⟩ := cmp_facts x y
    simp only [Go.Lib.compareBytes, Op.bytesLess]
    by_cases hab : a < b
    · have hne : a ≠ b := fun e => by subst e; exact absurd hab (UInt8.lt_irrefl _)
      simp [hab, hne]
    · by_cases hba : b < a
      · have hne : a ≠ b := fun e => by subst e; exact absurd hba (UInt8.lt_irrefl _)
        simp [hab, hba, hne]
      · have he : a = b := UInt8.le_antisymm (UInt8.not_lt.1 hba) (UInt8.not_lt.1 hab)
        subst he
        simp only [hab, if_false, h1, h2, decide_false, Bool.false_or, beq_self_eq_true, Bool.true_and, List.cons.injEq, true_and, and_self]
theorem cmp_neg (a b : ByteArray) : gvCompare a b < 0 ↔ lessS a b = true := by
  unfold gvCompare lessS
  rw [ByteArray.toList_eq, ByteArray.toList_eq]
  exact (cmp_facts _ _).1
theorem cmp_zero (a b : ByteArray) : gvCompare a b = 0 ↔ a = b := by
  unfold gvCompare
  rw [(cmp_facts _ _).2]
  exact ⟨fun h => Go.WideShapes.bytes_inj h, fun h => by rw [h]⟩
theorem lessS_trans {a b c : ByteArray} (h : lessS a b = true) (h' : lessS b c = true) : lessS a c = true := bl_trans h h'
theorem lessS_irrefl (a : ByteArray) : lessS a a = false := bl_irrefl _
/-! search -/
theorem mid_eq {a b : Nat} (h : a ≤ b) (hb : b ≤ 140737488355328) : (Go.IntKind.wrap Go.IntKind.i64 (Int.fdiv (Go.IntKind.wrap Go.IntKind.u64 (wrap64 ((a : Int) + (b : Int)))) (Int.instNatPow.1 2 (Min.min (Int.toNat 1) 64)))) = (((a + b) / 2 : Nat) : Int) := by
  have w1 : wrap64 ((a : Int) + (b : Int)) = ((a + b : Nat) : Int) := by rw [wrap_of (by omega) (by omega)]; omega
  have w2 : (Int.instNatPow.1 2 (Min.min (Int.toNat 1) 64) : Int) = 2 := by decide
  rw [w1, w2, wraps_u64 _ (by omega) (by omega)]
  have w3 : Int.fdiv ((a + b : Nat) : Int) 2 = (((a + b) / 2 : Nat) : Int) := by
    rw [Int.fdiv_eq_ediv_of_nonneg _ (by omega)]; omega
  rw [w3]
  have : ∀ n : Nat, n < 9223372036854775807 → Go.IntKind.wrap Go.IntKind.i64 (n : Int) = (n : Int) := fun n hn => by
    simp only [IntKind.wrap, IntKind.signed, IntKind.bits]
    simp
    omega
  exact this _ (by omega)
section
variable {e : Kind} {H : Nat → Int → Int → Option (Int × Bool)} {F : Nat → e.T → Option Int} {cv : e.T → Int} {l : List e.T}
theorem bs_ev (hl : l.length ≤ 140737488355328) (hF : ∀ x, Ev (fun k => F k x) (cv x))
    (hs : ∀ k lo hi, H (k + 1) lo hi = (if lo < hi then (if 0 ≤ (Go.IntKind.wrap Go.IntKind.i64 (Int.fdiv (Go.IntKind.wrap Go.IntKind.u64 (wrap64 (lo + hi))) (Int.instNatPow.1 2 (Min.min (Int.toNat 1) 64)))) then (if (Go.IntKind.wrap Go.IntKind.i64 (Int.fdiv (Go.IntKind.wrap Go.IntKind.u64 (wrap64 (lo + hi))) (Int.instNatPow.1 2 (Min.min (Int.toNat 1) 64)))) < (l.length : Int) then
      ((F k (rdT e l (Go.IntKind.wrap Go.IntKind.i64 (Int.fdiv (Go.IntKind.wrap Go.IntKind.u64 (wrap64 (lo + hi))) (Int.instNatPow.1 2 (Min.min (Int.toNat 1) 64)))))).bind fun t => if t < 0 then H k (wrap64 ((Go.IntKind.wrap Go.IntKind.i64 (Int.fdiv (Go.IntKind.wrap Go.IntKind.u64 (wrap64 (lo + hi))) (Int.instNatPow.1 2 (Min.min (Int.toNat 1) 64)))) + 1)) hi else H k lo (Go.IntKind.wrap Go.IntKind.i64 (Int.fdiv (Go.IntKind.wrap Go.IntKind.u64 (wrap64 (lo + hi))) (Int.instNatPow.1 2 (Min.min (Int.toNat 1) 64))))) else none) else none)
      else (if lo < (l.length : Int) then (if 0 ≤ lo then (if lo < (l.length : Int) then ((F k (rdT e l lo)).bind fun t => some (lo, decide (t = 0))) else none) else none) else some (lo, false)))) :
    ∃ (i : Nat) (f : Bool), Ev (fun k => H k 0 (l.length : Int)) ((i : Int), f) ∧ i ≤ l.length ∧ (∀ x, 0 < i → l[i - 1]? = some x → cv x < 0) ∧ (∀ x, l[i]? = some x → ¬ cv x < 0) ∧ (f = true ↔ ∃ x, l[i]? = some x ∧ cv x = 0) := by
  have key : ∀ d lo hi : Nat, hi - lo = d → lo ≤ hi → hi ≤ l.length → (∀ x, 0 < lo → l[lo - 1]? = some x → cv x < 0) → (∀ x, l[hi]? = some x → ¬ cv x < 0) →
      ∃ (i : Nat) (f : Bool), Ev (fun k => H k (lo : Int) (hi : Int)) ((i : Int), f) ∧ i ≤ l.length ∧ (∀ x, 0 < i → l[i - 1]? = some x → cv x < 0) ∧ (∀ x, l[i]? = some x → ¬ cv x < 0) ∧ (f = true ↔ ∃ x, l[i]? = some x ∧ cv x = 0) := by
    intro d
    induction d using Nat.strongRecOn with
    | ind d ih =>
      intro lo hi hd hle hhi h1 h2
      by_cases hlt : lo < hi
      · have hm : (lo + hi) / 2 < l.length := by omega
        have hx : l[(lo + hi) / 2]? = some l[(lo + hi) / 2] := List.getElem?_eq_getElem hm
        generalize l[(lo + hi) / 2] = x at hx
        have hmid := mid_eq hle (by omega)
        by_cases hc : cv x < 0
        · obtain ⟨i, f, r1, r2⟩ := ih (hi - ((lo + hi) / 2 + 1)) (by omega) ((lo + hi) / 2 + 1) hi rfl (by omega) hhi (fun y _ hy => by
            rw [show (lo + hi) / 2 + 1 - 1 = (lo + hi) / 2 from rfl, hx] at hy; cases hy; exact hc) h2
          refine ⟨i, f, ev_shift ?_, r2⟩
          simp only [hs, hmid, rdT_get hx, ev_bind_iff (hF x), ev_ite_iff, ev_none_iff, wrap_nat (show (lo + hi) / 2 < 9223372036854775807 by omega)]
          rw [if_pos (by omega), if_pos (by omega), if_pos (by omega), if_pos hc]
          exact r1
        · obtain ⟨i, f, r1, r2⟩ := ih ((lo + hi) / 2 - lo) (by omega) lo ((lo + hi) / 2) rfl (by omega) (by omega) h1 (fun y hy => by rw [hx] at hy; cases hy; exact hc)
          refine ⟨i, f, ev_shift ?_, r2⟩
          simp only [hs, hmid, rdT_get hx, ev_bind_iff (hF x), ev_ite_iff, ev_none_iff]
          rw [if_pos (by omega), if_pos (by omega), if_pos (by omega), if_neg hc]
          exact r1
      · have he : lo = hi := by omega
        subst he
        by_cases hlo : lo < l.length
        · have hx : l[lo]? = some l[lo] := List.getElem?_eq_getElem hlo
          generalize l[lo] = x at hx
          refine ⟨lo, decide (cv x = 0), ev_shift ?_, by omega, h1, h2, ?_⟩
          · simp only [hs, rdT_get hx, ev_bind_iff (hF x), ev_ite_iff, ev_none_iff, ev_some_iff]
            rw [if_neg (by omega), if_pos (by omega), if_pos (by omega), if_pos (by omega)]
            trivial
          · simp [hx]
        · refine ⟨lo, false, ev_shift ?_, by omega, h1, h2, ?_⟩
          · simp only [hs, ev_ite_iff, ev_none_iff, ev_some_iff]
            rw [if_neg (by omega), if_neg (by omega)]
            trivial
          · have : l[lo]? = none := List.getElem?_eq_none (by omega)
            simp [this]
  have := key l.length 0 l.length (by omega) (by omega) (by omega) (fun x h => absurd h (by omega)) (fun x h => by rw [List.getElem?_eq_none (by omega)] at h; cases h)
  simpa using this
/-- in a row in strict order, what is searched is where it is -/
def sortedBy (key : e.T → ByteArray) (l : List e.T) : Prop := ∀ i x y, l[i]? = some x → l[i + 1]? = some y → lessS (key x) (key y) = true
theorem sorted_lt {key : e.T → ByteArray} (h : sortedBy key l) : ∀ d i x y, l[i]? = some x → l[i + d + 1]? = some y → lessS (key x) (key y) = true := by
  intro d
  induction d with
  | zero => intro i x y hx hy; exact h i x y hx hy
  | succ d ih =>
    intro i x y hx hy
    have hlt : i + (d + 1) + 1 < l.length := by
      rcases Nat.lt_or_ge (i + (d + 1) + 1) l.length with h | h
      · exact h
      · rw [List.getElem?_eq_none h] at hy; cases hy
    have hz : l[i + d + 1]? = some l[i + d + 1] := List.getElem?_eq_getElem (by omega)
    exact lessS_trans (ih i x _ hx hz) (h (i + d + 1) _ y hz hy)
theorem bs_sorted {key : e.T → ByteArray} {s : ByteArray} (hsrt : sortedBy key l) {i : Nat} (h1 : ∀ x, 0 < i → l[i - 1]? = some x → gvCompare (key x) s < 0) (h2 : ∀ x, l[i]? = some x → ¬ gvCompare (key x) s < 0) (hi : i ≤ l.length)
    {j : Nat} {y : e.T} (hy : l[j]? = some y) (hk : key y = s) : j = i := by
  have hj : j < l.length := by
    rcases Nat.lt_or_ge j l.length with h | h
    · exact h
    · rw [List.getElem?_eq_none h] at hy; cases hy
  rcases Nat.lt_trichotomy j i with h | h | h
  · exfalso
    have hp : l[i - 1]? = some l[i - 1] := List.getElem?_eq_getElem (by omega)
    have hneg := h1 _ (by omega) hp
    rw [cmp_neg] at hneg
    by_cases he : j = i - 1
    · subst he
      rw [hp] at hy; cases hy
      rw [hk, lessS_irrefl] at hneg; cases hneg
    · have := sorted_lt hsrt (i - 1 - j - 1) j y _ hy (by rw [show j + (i - 1 - j - 1) + 1 = i - 1 by omega]; exact hp)
      rw [hk] at this
      have := lessS_trans this hneg
      rw [lessS_irrefl] at this; cases this
  · exact h
  · exfalso
    have hp : l[i]? = some l[i] := List.getElem?_eq_getElem (by omega)
    have hnn := h2 _ hp
    rw [cmp_neg] at hnn
    have := sorted_lt hsrt (j - i - 1) i _ y hp (by rw [show i + (j - i - 1) + 1 = j by omega]; exact hy)
    rw [hk] at this
    exact hnn this
end

/-! ### compact -/
abbrev RecT := ByteArray × ByteArray × TidT × Int
abbrev RecK : Kind := .struct (.pair .str (.pair .str (.pair TidK (.int .i64))))
def toRec (o : EntT) : RecT := (o.2.1, (o.2.2.1, (o.2.2.2, 0)))
def lessT (a b : TidT) : Bool := decide (a.1 < b.1 ∨ a.1 = b.1 ∧ a.2.1 < b.2.1)
theorem lessT_irrefl (a : TidT) : lessT a a = false := by simp [lessT]
theorem lessT_trans {a b c : TidT} (h1 : lessT a b = true) (h2 : lessT b c = true) : lessT a c = true := by
  simp only [lessT, decide_eq_true_eq] at *
  omega
theorem specCmp_ev (a b : TidT) : ∃ c, Ev (fun k => spec_l1Compare k a b) c ∧ (c < 0 ↔ lessT a b = true) := by
  by_cases h1 : a.1 < b.1
  · exact ⟨-1, ev_congr (fun k => spec_l1Compare_eq k a b) (ev_if_pos h1 (ev_some _)), by simp [lessT, h1]⟩
  · by_cases h2 : a.1 = b.1
    · by_cases h3 : a.2.1 < b.2.1
      · exact ⟨-1, ev_congr (fun k => spec_l1Compare_eq k a b) (ev_if_neg h1 (ev_if_pos h2 (ev_if_pos h3 (ev_some _)))), by simp [lessT, h2, h3]⟩
      · have hl : lessT a b = false := by simp [lessT, h1, h3]
        by_cases h4 : b.1 < a.1
        · exact ⟨1, ev_congr (fun k => spec_l1Compare_eq k a b) (ev_if_neg h1 (ev_if_pos h2 (ev_if_neg h3 (ev_if_pos h4 (ev_some _))))), by simp [hl]⟩
        · by_cases h5 : b.2.1 < a.2.1
          · exact ⟨1, ev_congr (fun k => spec_l1Compare_eq k a b) (ev_if_neg h1 (ev_if_pos h2 (ev_if_neg h3 (ev_if_neg h4 (ev_if_pos h5 (ev_some _)))))), by simp [hl]⟩
          · exact ⟨0, ev_congr (fun k => spec_l1Compare_eq k a b) (ev_if_neg h1 (ev_if_pos h2 (ev_if_neg h3 (ev_if_neg h4 (ev_if_neg h5 (ev_some _)))))), by simp [hl]⟩
    · have h4 : b.1 < a.1 := by omega
      have hl : lessT a b = false := by simp [lessT, h1, h2]
      exact ⟨1, ev_congr (fun k => spec_l1Compare_eq k a b) (ev_if_neg h1 (ev_if_neg h2 (ev_if_pos h4 (ev_some _)))), by simp [hl]⟩
def cmpI (a b : Int) : Int := if a < b then -1 else if b < a then 1 else 0
theorem cmpI_ev (a b : Int) : Ev (fun k => cmp_Compare k a b) (cmpI a b) := by
  refine ev_congr (fun k => cmp_Compare_eq k a b) ?_
  simp only [cmp_isNaN_eq, Option.bind_some, ev_ite_iff, ev_some_iff, cmpI]
  by_cases h : a < b <;> by_cases h' : b < a <;> simp [h, h']
theorem cmpOr_ev (a b : Int) : Ev (fun k => cmp_Or k [a, b]) (if a ≠ 0 then a else b) := by
  refine ev_congr (fun k => cmp_Or_eq k _) ?_
  have r0 : rdT (.int .i64) ([a, b] : List Int) 0 = a := rfl
  have r1 : rdT (.int .i64) ([a, b] : List Int) 1 = b := rfl
  have w0 : wrap64 (0 + 1) = 1 := by rw [wrap_of (by decide) (by decide)]; rfl
  have w1 : wrap64 (1 + 1) = 2 := by rw [wrap_of (by decide) (by decide)]; rfl
  by_cases h : a ≠ 0
  · rw [if_pos h]
    refine ev_shift ?_
    simp only [cmp_Or_h3_eq, r0, ev_ite_iff, ev_some_iff, ev_none_iff, List.length_cons, List.length_nil]
    rw [if_pos (by omega), if_pos (by omega), if_pos (by omega), if_pos h]; trivial
  · rw [if_neg h]
    refine ev_shift ?_
    simp only [cmp_Or_h3_eq, r0, w0, ev_ite_iff, ev_some_iff, ev_none_iff, List.length_cons, List.length_nil]
    rw [if_pos (by omega), if_pos (by omega), if_pos (by omega), if_neg h]
    refine ev_shift ?_
    simp only [cmp_Or_h3_eq, r1, w1, ev_ite_iff, ev_some_iff, ev_none_iff, List.length_cons, List.length_nil]
    rw [if_pos (by omega), if_pos (by omega), if_pos (by omega)]
    by_cases hb : b ≠ 0
    · rw [if_pos hb]; trivial
    · have hb0 : b = 0 := Classical.not_not.1 hb
      subst hb0
      rw [if_neg hb]
      exact ev_last fun k => by rw [cmp_Or_h3_eq, if_neg (by simp)]
theorem implCmp_ev (a b : TidT) : ∃ c, Ev (fun k => impl_compareTid k a b) c ∧ (c < 0 ↔ lessT a b = true) := by
  refine ⟨_, ev_congr (fun k => impl_compareTid_eq k a b) (ev_bind (cmpI_ev a.1 b.1) (ev_bind (cmpI_ev a.2.1 b.2.1) (ev_bind (cmpOr_ev _ _) (ev_some _)))), ?_⟩
  simp only [cmpI, lessT, decide_eq_true_eq]
  by_cases h1 : a.1 < b.1 <;> by_cases h2 : b.1 < a.1 <;> by_cases h3 : a.2.1 < b.2.1 <;> by_cases h4 : b.2.1 < a.2.1 <;> simp [h1, h2, h3, h4] <;> omega
/-! the spec's store -/
theorem find_ev (S : List RecT) (key : ByteArray) (hl : S.length ≤ 1048576) : Ev (fun k => spec_l5Find k ((0 : Int), (S, ([], []))) key) (match S.find? (fun r => decide (r.1 = key)) with | some r => (r, true) | none => ((key, ((ByteArray.mk (Array.mk [])), (((0 : Int), ((0 : Int), false)), (0 : Int)))), false)) := by
  refine ev_congr (fun k => spec_l5Find_eq k _ key) ?_
  refine drop_ind0 S (fun n rest => Ev (fun k => spec_l5Find_h2 k key _ S (S.length : Int) (n : Int)) (match rest.find? (fun r => decide (r.1 = key)) with | some r => (r, true) | none => ((key, ((ByteArray.mk (Array.mk [])), (((0 : Int), ((0 : Int), false)), (0 : Int)))), false))) ?_ ?_
  · exact ev_last fun k => by rw [spec_l5Find_h2_eq, if_neg (by omega)]; rfl
  · intro n r rest hn hr _ ih
    have q0 : (0 : Int) ≤ (n : Int) := by omega
    have q1 : (n : Int) < (S.length : Int) := by omega
    refine ev_shift ?_
    simp only [spec_l5Find_h2_eq, rdT_get (e := RecK) hr, wrap_nat (show n < 9223372036854775807 by omega), ev_ite_iff, ev_some_iff, ev_none_iff]
    rw [if_pos q1, if_pos q0, if_pos q1, List.find?_cons]
    by_cases h : r.1 = key
    · rw [if_pos h]; simp [h]
    · rw [if_neg h]; simpa [h] using ih
theorem put_ev (S : List RecT) (r : RecT) (i : Nat) (hl : S.length ≤ 1048576) (hi : i ≤ S.length) (hlt : ∀ j y, j < i → S[j]? = some y → lessS y.1 r.1 = true) (hge : ∀ y, S[i]? = some y → lessS y.1 r.1 = false) (d : Nat) (hd : d = if (∃ y, S[i]? = some y ∧ y.1 = r.1) then i + 1 else i) :
    Ev (fun k => spec_l5Put k ((0 : Int), (S, ([], []))) r) ((0 : Int), (S.take i ++ [r] ++ S.drop d, ([], []))) := by
  refine ev_congr (fun k => spec_l5Put_eq k _ r) ?_
  have hdl : d ≤ S.length := by
    subst hd
    split
    · rename_i h
      obtain ⟨y, hy, _⟩ := h
      exact (List.getElem?_eq_some_iff.1 hy).1
    · exact hi
  have t0 : ∀ n : Nat, (List.drop (Int.toNat 0) (List.take (Int.toNat (n : Int)) S)) = S.take n := fun n => by simp
  have t1 : ∀ n : Nat, (List.drop (Int.toNat (n : Int)) (List.take (Int.toNat (S.length : Int)) S)) = S.drop n := fun n => by simp
  have last : Ev (fun k => spec_l5Put_h9 k ((0 : Int), (S, ([], []))) ((0 : Int), ([], ([], []))) (d : Int) (S.take i ++ [r])) ((0 : Int), (S.take i ++ [r] ++ S.drop d, ([], []))) := by
    refine ev_shift ?_
    simp only [spec_l5Put_h9_eq, t1, ev_ite_iff, ev_none_iff, ev_some_iff]
    rw [if_pos (by omega), if_pos (by omega), if_pos (by simp only [List.length_append, List.length_take, List.length_drop, List.length_cons, List.length_nil]; omega)]; trivial
  refine up_ind i (fun n => Ev (fun k => spec_l5Put_h2 k ((0 : Int), (S, ([], []))) r ((0 : Int), ([], ([], []))) (n : Int)) _) ?_ ?_ 0 (by omega)
  · have b1 : (0 : Nat) + (S.take i).length ≤ 2199023255552 := by simp only [List.length_take]; omega
    have b2 : (([] : List RecT) ++ S.take i).length + (List.cons r ([] : List RecT)).length ≤ 2199023255552 := by simp only [List.nil_append, List.length_take, List.length_cons, List.length_nil]; omega
    have q0 : (0 : Int) ≤ (i : Int) := by omega
    have q2 : (i : Int) ≤ (S.length : Int) := by omega
    refine ev_shift ?_
    by_cases hin : i < S.length
    · have hy : S[i]? = some S[i] := List.getElem?_eq_getElem hin
      have hge' := hge _ hy
      generalize S[i] = y at hy hge'
      have q1 : (i : Int) < (S.length : Int) := by omega
      simp only [spec_l5Put_h2_eq, rdT_get (e := RecK) hy, hge', t0, wrap_nat (show i < 9223372036854775807 by omega), ev_ite_iff, ev_none_iff]
      simp only [Bool.false_eq_true, if_false, if_pos q0, if_pos q1, if_pos q2, if_pos b1, if_pos b2]
      by_cases hk : y.1 = r.1
      · have hd' : d = i + 1 := by rw [hd, if_pos ⟨y, hy, hk⟩]
        rw [if_pos hk, ← hd']
        exact last
      · have hd' : d = i := by
          rw [hd, if_neg]
          rintro ⟨z, hz, hzk⟩
          rw [hy] at hz; cases hz
          exact hk hzk
        rw [if_neg hk]
        rw [hd'] at last ⊢
        exact last
    · have hd' : d = i := by
        rw [hd, if_neg]
        rintro ⟨z, hz, _⟩
        rw [List.getElem?_eq_none (by omega)] at hz; cases hz
      have q1 : ¬ (i : Int) < (S.length : Int) := by omega
      simp only [spec_l5Put_h2_eq, t0, ev_ite_iff, ev_none_iff]
      simp only [if_neg q1, if_pos q0, if_pos q2, if_pos b1, if_pos b2]
      rw [hd'] at last ⊢
      exact last
  · intro n hn ih
    have hy : S[n]? = some S[n] := List.getElem?_eq_getElem (by omega)
    have hl' := hlt n _ hn hy
    generalize S[n] = y at hy hl'
    have q0 : (0 : Int) ≤ (n : Int) := by omega
    have q1 : (n : Int) < (S.length : Int) := by omega
    refine ev_shift ?_
    simp only [spec_l5Put_h2_eq, rdT_get (e := RecK) hy, hl', wrap_nat (show n < 9223372036854775807 by omega), ev_ite_iff, ev_none_iff]
    rw [if_pos q1, if_pos q0, if_pos q1]
    simpa using ih
theorem bl_total : ∀ {x y : List UInt8}, Op.bytesLess x y = false → x ≠ y → Op.bytesLess y x = true
  | [], [], _, h => absurd rfl h
  | [], _ :: _, h, _ => by simp [Op.bytesLess] at h
  | _ :: _, [], _, _ => rfl
  | a :: x, b :: y, h, hne => by
    simp only [Op.bytesLess, Bool.or_eq_false_iff, Bool.and_eq_false_iff, decide_eq_false_iff_not] at h
    simp only [Op.bytesLess, Bool.or_eq_true, Bool.and_eq_true, decide_eq_true_eq, beq_iff_eq]
    by_cases e : a = b
    · subst e
      right
      refine ⟨rfl, bl_total ?_ (fun e => hne (by rw [e]))⟩
      rcases h.2 with h | h
      · simp at h
      · exact h
    · left
      rcases UInt8.lt_or_lt_of_ne e with h' | h'
      · exact absurd h' h.1
      · exact h'
theorem lessS_total {a b : ByteArray} (h : lessS a b = false) (hne : a ≠ b) : lessS b a = true := by
  refine bl_total h (fun e => hne ?_)
  rw [ByteArray.toList_eq, ByteArray.toList_eq] at e
  exact Go.WideShapes.bytes_inj e
/-! both, side by side -/
def keyE (x : EntT) : ByteArray := x.2.1
def likeE (o y : EntT) : Bool := decide (y.2.1 = o.2.1) && sameTid y.2.2.2 o.2.2.2
structure Comp (p O : List EntT) : Prop where
  srt : ∀ i x y, O[i]? = some x → O[i + 1]? = some y → lessS (keyE x) (keyE y) = true
  len : O.length ≤ p.length
  first : ∀ o ∈ O, p.find? (likeE o) = some o
  most : ∀ y ∈ p, ∃ o ∈ O, o.2.1 = y.2.1 ∧ lessT o.2.2.2 y.2.2.2 = false
theorem likeE_self (o : EntT) : likeE o o = true := by
  simp only [likeE, decide_true, Bool.true_and]
  exact (sameTid_iff _ _).2 rfl
theorem Comp.nil : Comp [] [] := ⟨(fun i x y h => by simp at h), by simp, (fun o h => by cases h), (fun y h => by cases h)⟩
theorem ins_get {α : Type} {O : List α} {i : Nat} (hi : i ≤ O.length) (x : α) (j : Nat) : (O.take i ++ (x :: O.drop i))[j]? = if j < i then O[j]? else if j = i then some x else O[j - 1]? := by
  by_cases h1 : j < i
  · rw [if_pos h1, List.getElem?_append_left (by rw [List.length_take]; omega), List.getElem?_take, if_pos h1]
  · rw [if_neg h1, List.getElem?_append_right (by rw [List.length_take]; omega), List.length_take, Nat.min_eq_left hi]
    by_cases h2 : j = i
    · subst h2; simp
    · rw [if_neg h2]
      obtain ⟨d, hd⟩ : ∃ d, j - i = d + 1 := ⟨j - i - 1, by omega⟩
      rw [hd, List.getElem?_cons_succ, List.getElem?_drop]
      congr 1
      omega

/-! ### compact2 -/
theorem Comp.less {p O : List EntT} (h : Comp p O) {i : Nat} {s : ByteArray} (hi0 : i ≤ O.length) (h1 : ∀ x, 0 < i → O[i - 1]? = some x → lessS x.2.1 s = true) : ∀ j y, j < i → O[j]? = some y → lessS y.2.1 s = true := by
  intro j y hj hy
  have hjl := (List.getElem?_eq_some_iff.1 hy).1
  by_cases e : j = i - 1
  · subst e; exact h1 y (by omega) hy
  · by_cases hi : i - 1 < O.length
    · have hp : O[i - 1]? = some O[i - 1] := List.getElem?_eq_getElem hi
      have := sorted_lt (e := EntK) (key := keyE) (l := O) h.srt (i - 1 - j - 1) j y _ hy (by rw [show j + (i - 1 - j - 1) + 1 = i - 1 by omega]; exact hp)
      exact lessS_trans this (h1 _ (by omega) hp)
    · -- i - 1 beyond the end: not so
      exfalso
      have := hi
      omega
theorem find_snoc_some {p : List EntT} {f : EntT → Bool} {o x : EntT} (h : p.find? f = some o) : (p ++ [x]).find? f = some o := by
  rw [List.find?_append, h]; rfl
theorem find_snoc_none {p : List EntT} {f : EntT → Bool} {x : EntT} (h : ∀ y ∈ p, f y = false) (hx : f x = true) : (p ++ [x]).find? f = some x := by
  have : p.find? f = none := List.find?_eq_none.2 (fun y hy => by simp [h y hy])
  rw [List.find?_append, this]
  simp [hx]
/-- a new key -/
theorem Comp.insert {p O : List EntT} (h : Comp p O) {x : EntT} {i : Nat} (hi : i ≤ O.length) (hlt : ∀ j y, j < i → O[j]? = some y → lessS y.2.1 x.2.1 = true) (hgt : ∀ j y, i ≤ j → O[j]? = some y → lessS x.2.1 y.2.1 = true) (hnew : ∀ o ∈ O, o.2.1 ≠ x.2.1) :
    Comp (p ++ [x]) (O.take i ++ (x :: O.drop i)) := by
  have hmem : ∀ o, o ∈ O.take i ++ (x :: O.drop i) ↔ o = x ∨ o ∈ O := by
    intro o
    have e : o ∈ O ↔ o ∈ O.take i ∨ o ∈ O.drop i := by rw [← List.mem_append, List.take_append_drop]
    simp only [List.mem_append, List.mem_cons, e]
    constructor
    · rintro (h | h | h)
      · exact .inr (.inl h)
      · exact .inl h
      · exact .inr (.inr h)
    · rintro (h | h | h)
      · exact .inr (.inl h)
      · exact .inl h
      · exact .inr (.inr h)
  refine ⟨?_, ?_, ?_, ?_⟩
  · intro j a b ha hb
    rw [ins_get hi] at ha hb
    by_cases h1 : j + 1 < i
    · rw [if_pos (by omega)] at ha
      rw [if_pos h1] at hb
      exact h.srt j a b ha hb
    · by_cases h2 : j + 1 = i
      · rw [if_pos (by omega)] at ha
        rw [if_neg h1, if_pos h2] at hb
        cases hb
        exact hlt j a (by omega) ha
      · rw [if_neg h1, if_neg h2] at hb
        by_cases h3 : j = i
        · rw [if_neg (by omega), if_pos h3] at ha
          cases ha
          exact hgt (j + 1 - 1) b (by omega) hb
        · rw [if_neg (by omega), if_neg h3] at ha
          have : j - 1 + 1 = j + 1 - 1 := by omega
          exact h.srt (j - 1) a b ha (by rw [this]; exact hb)
  · have := h.len
    simp only [List.length_append, List.length_take, List.length_cons, List.length_drop, List.length_nil]
    omega
  · intro o ho
    rcases (hmem o).1 ho with rfl | ho
    · refine find_snoc_none (fun y hy => ?_) (likeE_self _)
      obtain ⟨o', ho', hk, _⟩ := h.most y hy
      have := hnew o' ho'
      simp only [likeE, Bool.and_eq_false_iff, decide_eq_false_iff_not]
      exact .inl (fun e => this (hk.trans e))
    · exact find_snoc_some (h.first o ho)
  · intro y hy
    rcases List.mem_append.1 hy with hy | hy
    · obtain ⟨o, ho, h1, h2⟩ := h.most y hy
      exact ⟨o, (hmem o).2 (.inr ho), h1, h2⟩
    · simp at hy; subst hy
      exact ⟨y, (hmem y).2 (.inl rfl), rfl, lessT_irrefl _⟩
theorem Comp.uniq {p O : List EntT} (h : Comp p O) {i j : Nat} {a b : EntT} (ha : O[i]? = some a) (hb : O[j]? = some b) (hk : a.2.1 = b.2.1) : i = j := by
  rcases Nat.lt_trichotomy i j with hlt | he | hlt
  · have := sorted_lt (e := EntK) (key := keyE) (l := O) h.srt (j - i - 1) i a b ha (by rw [show i + (j - i - 1) + 1 = j by omega]; exact hb)
    unfold keyE at this
    rw [hk, lessS_irrefl] at this; cases this
  · exact he
  · have := sorted_lt (e := EntK) (key := keyE) (l := O) h.srt (i - j - 1) j b a hb (by rw [show j + (i - j - 1) + 1 = i by omega]; exact ha)
    unfold keyE at this
    rw [hk, lessS_irrefl] at this; cases this
/-- a key with a greater tid -/
theorem Comp.replace {p O : List EntT} (h : Comp p O) {x y : EntT} {i : Nat} (hy : O[i]? = some y) (hk : y.2.1 = x.2.1) (hless : lessT y.2.2.2 x.2.2.2 = true) : Comp (p ++ [x]) (O.set i x) := by
  have hi := (List.getElem?_eq_some_iff.1 hy).1
  have hget : ∀ j, (O.set i x)[j]? = if j = i then some x else O[j]? := by
    intro j
    by_cases e : j = i
    · subst e; rw [if_pos rfl, List.getElem?_set_self hi]
    · rw [if_neg e, List.getElem?_set_ne (Ne.symm e)]
  have hmem : ∀ o ∈ O.set i x, o = x ∨ (o ∈ O ∧ o.2.1 ≠ x.2.1) := by
    intro o ho
    obtain ⟨j, hj⟩ := List.getElem?_of_mem ho
    rw [hget] at hj
    by_cases e : j = i
    · rw [if_pos e] at hj; cases hj; exact .inl rfl
    · rw [if_neg e] at hj
      exact .inr ⟨List.mem_of_getElem? hj, fun hh => e (h.uniq hj hy (hh.trans hk.symm))⟩
  refine ⟨?_, ?_, ?_, ?_⟩
  · intro j a b ha hb
    rw [hget] at ha hb
    by_cases e1 : j = i
    · rw [if_pos e1] at ha; cases ha
      rw [if_neg (by omega)] at hb
      have := h.srt j y b (by rw [e1]; exact hy) hb
      unfold keyE at this ⊢
      rw [← hk]; exact this
    · rw [if_neg e1] at ha
      by_cases e2 : j + 1 = i
      · rw [if_pos e2] at hb; cases hb
        have := h.srt j a y ha (by rw [e2]; exact hy)
        unfold keyE at this ⊢
        rw [← hk]; exact this
      · rw [if_neg e2] at hb
        exact h.srt j a b ha hb
  · have := h.len
    simp only [List.length_set, List.length_append, List.length_cons, List.length_nil]
    omega
  · intro o ho
    rcases hmem o ho with rfl | ⟨ho, _⟩
    · refine find_snoc_none (fun z hz => ?_) (likeE_self _)
      obtain ⟨o', ho', h1, h2⟩ := h.most z hz
      simp only [likeE, Bool.and_eq_false_iff, decide_eq_false_iff_not]
      by_cases e : z.2.1 = o.2.1
      · right
        obtain ⟨j, hj⟩ := List.getElem?_of_mem ho'
        have hji := h.uniq hj hy (h1.trans (e.trans hk.symm))
        subst hji
        rw [hj] at hy; cases hy
        cases hs : sameTid z.2.2.2 o.2.2.2 with
        | false => rfl
        | true =>
          rw [(sameTid_iff _ _).1 hs, hless] at h2; cases h2
      · exact .inl e
    · exact find_snoc_some (h.first o ho)
  · intro z hz
    have hx : x ∈ O.set i x := List.mem_of_getElem? (by rw [hget, if_pos rfl])
    rcases List.mem_append.1 hz with hz | hz
    · obtain ⟨o, ho, h1, h2⟩ := h.most z hz
      obtain ⟨j, hj⟩ := List.getElem?_of_mem ho
      by_cases e : j = i
      · subst e
        rw [hj] at hy; cases hy
        refine ⟨x, hx, hk.symm.trans h1, ?_⟩
        cases hs : lessT x.2.2.2 z.2.2.2 with
        | false => rfl
        | true => rw [lessT_trans hless hs] at h2; cases h2
      · exact ⟨o, List.mem_of_getElem? (i := j) (by rw [hget, if_neg e]; exact hj), h1, h2⟩
    · simp at hz; subst hz
      exact ⟨z, hx, rfl, lessT_irrefl _⟩
/-- a key that stays -/
theorem Comp.stay {p O : List EntT} (h : Comp p O) {x y : EntT} (hy : y ∈ O) (hk : y.2.1 = x.2.1) (hless : lessT y.2.2.2 x.2.2.2 = false) : Comp (p ++ [x]) O := by
  refine ⟨h.srt, ?_, fun o ho => find_snoc_some (h.first o ho), ?_⟩
  · have := h.len
    simp only [List.length_append, List.length_cons, List.length_nil]
    omega
  · intro z hz
    rcases List.mem_append.1 hz with hz | hz
    · exact h.most z hz
    · simp at hz; subst hz
      exact ⟨y, hy, hk, hless⟩
theorem search_ev (O : List EntT) (s : ByteArray) (hl : O.length ≤ 1048576) : ∃ (i : Nat) (f : Bool), Ev (fun k => slices_BinarySearchFunc k O s ()) ((i : Int), f) ∧ i ≤ O.length ∧ (∀ x, 0 < i → O[i - 1]? = some x → gvCompare x.2.1 s < 0) ∧ (∀ x, O[i]? = some x → ¬ gvCompare x.2.1 s < 0) ∧ (f = true ↔ ∃ x, O[i]? = some x ∧ gvCompare x.2.1 s = 0) := by
  obtain ⟨i, f, h1, h2⟩ := bs_ev (e := EntK) (l := O) (F := fun k x => impl_compact_1 k x s) (cv := fun x => gvCompare x.2.1 s) (H := fun k lo hi => slices_BinarySearchFunc_h3 k O s () (O.length : Int) lo hi) (by omega) (fun x => ev_congr (fun k => impl_compact_1_eq k x s) (ev_some _)) (fun k lo hi => slices_BinarySearchFunc_h3_eq k O s () _ lo hi)
  exact ⟨i, f, ev_congr (fun k => slices_BinarySearchFunc_eq k O s ()) h1, h2⟩
theorem replay_ev (l : List EntT) (hl : l.length ≤ 80) : ∃ F : List EntT, Ev (fun k => spec_l6Replay k l) (F.map toRec) ∧ Ev (fun k => impl_compact k l) F ∧ Comp l F := by
  have key := drop_ind0 l (fun n rest => ∀ O, Comp (l.take n) O → ∃ F : List EntT, Ev (fun k => spec_l6Replay_h3 k ((0 : Int), (O.map toRec, ([], []))) l (l.length : Int) (n : Int)) (F.map toRec) ∧ Ev (fun k => impl_compact_h3 k O l (l.length : Int) (n : Int)) F ∧ Comp l F) ?_ ?_
  · obtain ⟨F, h1, h2, h3⟩ := key [] (by simpa using Comp.nil)
    exact ⟨F, ev_congr (fun k => spec_l6Replay_eq k l) h1, ev_congr (fun k => impl_compact_eq k l) h2, h3⟩
  · intro O hc
    rw [List.take_length] at hc
    exact ⟨O, ev_last fun k => by rw [spec_l6Replay_h3_eq, if_neg (by omega)], ev_last fun k => by rw [impl_compact_h3_eq, if_neg (by omega)], hc⟩
  · intro n x rest hn hx _ ih O hc
    have hts := take_snoc hx
    have hlenO : O.length ≤ 80 := by
      have := hc.len
      rw [List.length_take] at this
      omega
    have q0 : (0 : Int) ≤ (n : Int) := by omega
    have q1 : (n : Int) < (l.length : Int) := by omega
    obtain ⟨i, f, s0, hi, s1, s2, s3⟩ := search_ev O x.2.1 (by omega)
    have hSl : (O.map toRec).length ≤ 1048576 := by rw [List.length_map]; omega
    have hlt := hc.less (i := i) (s := x.2.1) hi (fun y h0 hy => (cmp_neg _ _).1 (s1 y h0 hy))
    have hltS : ∀ j y, j < i → (O.map toRec)[j]? = some y → lessS y.1 (toRec x).1 = true := by
      intro j y hj hy
      rw [List.getElem?_map] at hy
      cases ho : O[j]? with
      | none => simp [ho] at hy
      | some o => simp [ho] at hy; subst hy; exact hlt j o hj ho
    have hgeS : ∀ y, (O.map toRec)[i]? = some y → lessS y.1 (toRec x).1 = false := by
      intro y hy
      rw [List.getElem?_map] at hy
      cases ho : O[i]? with
      | none => simp [ho] at hy
      | some o =>
        simp [ho] at hy; subst hy
        have := s2 o ho
        rw [cmp_neg] at this
        simpa [toRec] using this
    have hfind := find_ev (O.map toRec) x.2.1 hSl
    cases f with
    | false =>
      have hno : ∀ o ∈ O, o.2.1 ≠ x.2.1 := by
        intro o ho hk
        obtain ⟨j, hj⟩ := List.getElem?_of_mem ho
        have := bs_sorted (e := EntK) (key := keyE) (l := O) hc.srt (i := i) (s := x.2.1) s1 s2 hi hj hk
        subst this
        have := s3.2 ⟨o, hj, (cmp_zero _ _).2 hk⟩
        cases this
      have hfn : (O.map toRec).find? (fun r => decide (r.1 = x.2.1)) = none := by
        rw [List.find?_eq_none]
        intro r hr
        obtain ⟨o, ho, rfl⟩ := List.mem_map.1 hr
        exact fun h => hno o ho (of_decide_eq_true h)
      rw [hfn] at hfind
      have hput := put_ev (O.map toRec) (toRec x) i hSl (by rw [List.length_map]; exact hi) hltS hgeS i (by
        rw [if_neg]
        rintro ⟨y, hy, hk⟩
        rw [List.getElem?_map] at hy
        cases ho : O[i]? with
        | none => simp [ho] at hy
        | some o => simp [ho] at hy; subst hy; exact hno o (List.mem_of_getElem? ho) hk)
      have hm : (O.map toRec).take i ++ [toRec x] ++ (O.map toRec).drop i = (O.take i ++ (x :: O.drop i)).map toRec := by
        rw [List.map_append, List.map_cons, List.map_take, List.map_drop, List.append_assoc]; rfl
      rw [hm] at hput
      have hgt : ∀ j y, i ≤ j → O[j]? = some y → lessS x.2.1 y.2.1 = true := by
        intro j y hj hy
        have hin : i < O.length := by have := (List.getElem?_eq_some_iff.1 hy).1; omega
        have hz : O[i]? = some O[i] := List.getElem?_eq_getElem hin
        generalize O[i] = z at hz
        have hzx : lessS x.2.1 z.2.1 = true := by
          have h1 := s2 z hz
          rw [cmp_neg] at h1
          have h2 : z.2.1 ≠ x.2.1 := hno z (List.mem_of_getElem? hz)
          exact lessS_total (by simpa using h1) h2
        by_cases e : j = i
        · subst e; rw [hz] at hy; cases hy; exact hzx
        · exact lessS_trans hzx (sorted_lt (e := EntK) (key := keyE) (l := O) hc.srt (j - i - 1) i z y hz (by rw [show i + (j - i - 1) + 1 = j by omega]; exact hy))
      have hnew := hc.insert (x := x) hi hlt hgt hno
      rw [← hts] at hnew
      obtain ⟨F, f1, f2, f3⟩ := ih _ hnew
      have hgv : gvIns EntK 64 O (i : Int) [x] = some (O.take i ++ (x :: O.drop i)) := by
        unfold gvIns
        rw [if_pos ⟨by omega, by omega, by simp, by simp only [List.length_cons, List.length_nil]; omega⟩]
        rfl
      refine ⟨F, ev_shift ?_, ev_shift ?_, f3⟩
      · simp only [spec_l6Replay_h3_eq, rdT_get (e := EntK) hx, wrap_nat (show n < 9223372036854775807 by omega), ev_bind_iff hfind, ev_bind_iff hput, ev_ite_iff, ev_none_iff]
        rw [if_pos q1, if_pos q0, if_pos q1, if_pos (by simp)]
        exact (ev_bind_iff hput).2 f1
      · simp only [impl_compact_h3_eq, rdT_get (e := EntK) hx, wrap_nat (show n < 9223372036854775807 by omega), ev_bind_iff s0, ev_ite_iff, ev_none_iff]
        rw [if_pos q1, if_pos q0, if_pos q1, if_pos (by simp)]
        refine ev_bind (ev_congr (fun k => hgv) (ev_some _)) ?_
        exact f2
    | true =>
      obtain ⟨y, hy, hk0⟩ := s3.1 rfl
      have hk : y.2.1 = x.2.1 := (cmp_zero _ _).1 hk0
      have hin := (List.getElem?_eq_some_iff.1 hy).1
      have hfs : (O.map toRec).find? (fun r => decide (r.1 = x.2.1)) = some (toRec y) := by
        cases hf : (O.map toRec).find? (fun r => decide (r.1 = x.2.1)) with
        | none =>
          rw [List.find?_eq_none] at hf
          have := hf (toRec y) (List.mem_map.2 ⟨y, List.mem_of_getElem? hy, rfl⟩)
          simp [toRec, hk] at this
        | some r =>
          have h1 := List.find?_some hf
          have h2 := List.mem_of_find?_eq_some hf
          obtain ⟨o, ho, rfl⟩ := List.mem_map.1 h2
          obtain ⟨j, hj⟩ := List.getElem?_of_mem ho
          have hok : o.2.1 = x.2.1 := of_decide_eq_true h1
          have := hc.uniq hj hy (hok.trans hk.symm)
          subst this
          rw [hj] at hy; cases hy; rfl
      rw [hfs] at hfind
      obtain ⟨c1, d1, e1⟩ := specCmp_ev y.2.2.2 x.2.2.2
      obtain ⟨c2, d2, e2⟩ := implCmp_ev y.2.2.2 x.2.2.2
      have r0 : (0 : Int) ≤ (i : Int) := by omega
      have r1 : (i : Int) < (O.length : Int) := by omega
      by_cases hless : lessT y.2.2.2 x.2.2.2 = true
      · have hput := put_ev (O.map toRec) (toRec x) i hSl (by rw [List.length_map]; exact hi) hltS hgeS (i + 1) (by
          rw [if_pos]
          exact ⟨toRec y, by rw [List.getElem?_map, hy]; rfl, hk⟩)
        have hm : (O.map toRec).take i ++ [toRec x] ++ (O.map toRec).drop (i + 1) = (O.set i x).map toRec := by
          rw [List.set_eq_take_append_cons_drop, if_pos hin, List.map_append, List.map_cons, List.map_take, List.map_drop, List.append_assoc]; rfl
        rw [hm] at hput
        have hnew := hc.replace hy hk hless
        rw [← hts] at hnew
        obtain ⟨F, f1, f2, f3⟩ := ih _ hnew
        refine ⟨F, ev_shift ?_, ev_shift ?_, f3⟩
        · simp only [spec_l6Replay_h3_eq, rdT_get (e := EntK) hx, wrap_nat (show n < 9223372036854775807 by omega), ev_bind_iff hfind, ev_ite_iff, ev_none_iff]
          rw [if_pos q1, if_pos q0, if_pos q1, if_neg (by simp)]
          refine (ev_bind_iff d1).2 ?_
          simp only [ev_ite_iff]
          rw [if_pos (e1.2 hless)]
          exact (ev_bind_iff hput).2 f1
        · simp only [impl_compact_h3_eq, rdT_get (e := EntK) hx, rdT_get (e := EntK) hy, wrap_nat (show n < 9223372036854775807 by omega), ev_bind_iff s0, ev_bind_iff d2, ev_ite_iff, ev_none_iff]
          rw [if_pos q1, if_pos q0, if_pos q1, if_neg (by simp), if_pos r0, if_pos r1, if_pos (e2.2 hless)]
          try rw [if_pos r0]
          try rw [if_pos r1]
          simpa using f2
      · have hless' : lessT y.2.2.2 x.2.2.2 = false := by simpa using hless
        have hnew := hc.stay (List.mem_of_getElem? hy) hk hless'
        rw [← hts] at hnew
        obtain ⟨F, f1, f2, f3⟩ := ih _ hnew
        refine ⟨F, ev_shift ?_, ev_shift ?_, f3⟩
        · simp only [spec_l6Replay_h3_eq, rdT_get (e := EntK) hx, wrap_nat (show n < 9223372036854775807 by omega), ev_bind_iff hfind, ev_ite_iff, ev_none_iff]
          rw [if_pos q1, if_pos q0, if_pos q1, if_neg (by simp)]
          refine (ev_bind_iff d1).2 ?_
          simp only [ev_ite_iff]
          rw [if_neg (fun hh => hless (e1.1 hh))]
          exact f1
        · simp only [impl_compact_h3_eq, rdT_get (e := EntK) hx, rdT_get (e := EntK) hy, wrap_nat (show n < 9223372036854775807 by omega), ev_bind_iff s0, ev_bind_iff d2, ev_ite_iff, ev_none_iff]
          rw [if_pos q1, if_pos q0, if_pos q1, if_neg (by simp), if_pos r0, if_pos r1, if_neg (fun hh => hless (e2.1 hh))]
          exact f2

/-! ### compact3 -/
theorem pick_ev (l F : List EntT) (hl : l.length ≤ 80) (hF : F.length ≤ 80) (hf : ∀ o ∈ F, l.find? (likeE o) = some o) : Ev (fun k => spec_l6Compact_h3 k l [] (F.map toRec) ((F.map toRec).length : Int) 0) F := by
  have key := drop_ind0 F (fun n rest => Ev (fun k => spec_l6Compact_h3 k l (F.take n) (F.map toRec) ((F.map toRec).length : Int) (n : Int)) F) ?_ ?_
  · simpa using key
  · rw [List.take_length]
    exact ev_last fun k => by rw [spec_l6Compact_h3_eq, if_neg (by rw [List.length_map]; omega)]
  · intro n o rest hn ho _ ih
    have hr : (F.map toRec)[n]? = some (toRec o) := by rw [List.getElem?_map, ho]; rfl
    have q0 : (0 : Int) ≤ (n : Int) := by omega
    have q1 : (n : Int) < ((F.map toRec).length : Int) := by rw [List.length_map]; omega
    rw [take_snoc ho] at ih
    have hof := hf o (List.mem_of_getElem? ho)
    refine ev_shift ?_
    simp only [spec_l6Compact_h3_eq, rdT_get (e := RecK) hr, ev_ite_iff, ev_none_iff]
    rw [if_pos q1, if_pos q0, if_pos q1]
    have inner := drop_ind0 l (fun m rs => rs.find? (likeE o) = some o → Ev (fun k => spec_l6Compact_h6 k l (F.take n) (toRec o) (F.map toRec) ((F.map toRec).length : Int) (n : Int) l (l.length : Int) (m : Int)) F) ?_ ?_
    · exact inner hof
    · intro h; simp at h
    · intro m z rs hm hz _ ih2 h
      have r0 : (0 : Int) ≤ (m : Int) := by omega
      have r1 : (m : Int) < (l.length : Int) := by omega
      have hap : (F.take n).length + (List.cons z ([] : List EntT)).length ≤ 2199023255552 := by simp only [List.length_take, List.length_cons, List.length_nil]; omega
      have e : Bool.and (decide (z.2.2.2.1 = (toRec o).2.2.1.1)) (Bool.and (decide (z.2.2.2.2.1 = (toRec o).2.2.1.2.1)) (decide (z.2.2.2.2.2 = (toRec o).2.2.1.2.2))) = sameTid z.2.2.2 o.2.2.2 := rfl
      have e2 : (toRec o).1 = o.2.1 := rfl
      refine ev_shift ?_
      simp only [spec_l6Compact_h6_eq, rdT_get (e := EntK) hz, e, e2, wrap_nat (show m < 9223372036854775807 by omega), wrap_nat (show n < 9223372036854775807 by omega), ev_ite_iff, ev_none_iff]
      rw [if_pos r1, if_pos r0, if_pos r1]
      rw [List.find?_cons] at h
      by_cases hk : z.2.1 = o.2.1
      · by_cases ht : sameTid z.2.2.2 o.2.2.2 = true
        · have hlk : likeE o z = true := by unfold likeE; rw [decide_eq_true hk, ht]; rfl
          rw [hlk] at h
          have hzo : z = o := Option.some.inj h
          rw [if_pos hk, if_pos ht, if_pos hap, hzo]
          exact ih
        · have hlk : likeE o z = false := by unfold likeE; simp [ht]
          rw [hlk] at h
          rw [if_pos hk, if_neg ht]
          exact ih2 h
      · have hlk : likeE o z = false := by unfold likeE; rw [decide_eq_false hk]; rfl
        rw [hlk] at h
        rw [if_neg hk]
        exact ih2 h
theorem compact_ev (l : List EntT) (hl : l.length ≤ 80) : ∃ F : List EntT, Ev (fun k => spec_l6Compact k l) F ∧ Ev (fun k => impl_compact k l) F ∧ F.length ≤ l.length := by
  obtain ⟨F, h1, h2, h3⟩ := replay_ev l hl
  exact ⟨F, ev_congr (fun k => spec_l6Compact_eq k l) (ev_bind h1 (pick_ev l F hl (Nat.le_trans h3.len hl) h3.first)), h2, h3.len⟩

/-! ### heldentry -/
theorem heldEntryS_ev (m : Int) (N : Nat) (h0 : 0 ≤ m) (hm : m + 6 * N ≤ 1073741824) : Ev (fun k => laws_heldEntryS k (mkList emEntry m 6 N) m) (m + 6 * (N : Int)) := by
  refine ev_congr (fun k => laws_heldEntryS_eq k _ m) ?_
  have hl := mkList_len emEntry m 6 N
  refine held_loop (fun k c i => laws_heldEntryS_h2 k (mkList emEntry m 6 N) c i) emEntry m 6 N (fun k c => ?_) (fun n r hn hx H => ?_)
  · rw [laws_heldEntryS_h2_eq, if_neg (by omega)]
  · obtain ⟨e1, e2, e3, e4, e5, e6⟩ := incs6 (m + 6 * (n : Int)) (by omega) (by omega)
    have d1 : (n : Int) < ((mkList emEntry m 6 N).length : Int) := by omega
    have d3 : (0 : Int) ≤ (n : Int) := by omega
    have e10 : m + 6 * (n : Int) + 6 = m + 6 * ((n + 1 : Nat) : Int) := by omega
    refine ev_shift ?_
    simp only [laws_heldEntryS_h2_eq, ev_ite_iff, ev_some_iff, ev_none_iff, e1, e2, e3, e4, e5, e6, wrap_nat (show n < 9223372036854775807 by omega), rdT_get (e := EntK) hx, if_pos d1, if_pos d3, ev_bind_iff (mtx_ev (m + 6 * (n : Int) + 1) (by omega)), ev_bind_iff (mtx_ev (m + 6 * (n : Int) + 2) (by omega)), emEntry, e10]
    simpa using H

/-! ### truncatelog -/
theorem parts_ev (l : List EntT) (ep : Int) (hl : l.length ≤ 80) : ∃ r : List EntT × (List EntT × Bool), Ev (fun k => spec_TruncateLog_h5 k ep [] [] l (l.length : Int) 0) r ∧ Ev (fun k => impl_TruncateLog_h5 k ep [] [] l (l.length : Int) 0) r ∧ r.1.length ≤ 80 ∧ r.2.1.length ≤ 80 := by
  have key := drop_ind0 l (fun n rest => ∀ a b : List EntT, a.length + b.length ≤ n → ∃ r : List EntT × (List EntT × Bool), Ev (fun k => spec_TruncateLog_h5 k ep a b l (l.length : Int) (n : Int)) r ∧ Ev (fun k => impl_TruncateLog_h5 k ep a b l (l.length : Int) (n : Int)) r ∧ r.1.length ≤ 80 ∧ r.2.1.length ≤ 80) ?_ ?_
  · exact key [] [] (by simp)
  · intro a b hab
    obtain ⟨F, f1, f2, f3⟩ := compact_ev b (by omega)
    refine ⟨(a, (F, true)), ev_shift ?_, ev_shift ?_, by show a.length ≤ 80; omega, by show F.length ≤ 80; omega⟩
    · simp only [spec_TruncateLog_h5_eq, ev_ite_iff]
      rw [if_neg (by omega)]
      exact ev_bind f1 (ev_some _)
    · simp only [impl_TruncateLog_h5_eq, ev_ite_iff]
      rw [if_neg (by omega)]
      exact ev_bind f2 (ev_some _)
  · intro n x rest hn hx _ ih a b hab
    have q0 : (0 : Int) ≤ (n : Int) := by omega
    have q1 : (n : Int) < (l.length : Int) := by omega
    have ha : a.length + (List.cons x ([] : List EntT)).length ≤ 2199023255552 := by simp only [List.length_cons, List.length_nil]; omega
    have hb : b.length + (List.cons x ([] : List EntT)).length ≤ 2199023255552 := by simp only [List.length_cons, List.length_nil]; omega
    by_cases h : ep < x.2.2.2.1
    · obtain ⟨r, r1, r2, r3⟩ := ih (a ++ [x]) b (by simp only [List.length_append, List.length_cons, List.length_nil]; omega)
      refine ⟨r, ev_shift ?_, ev_shift ?_, r3⟩
      · simp only [spec_TruncateLog_h5_eq, rdT_get (e := EntK) hx, wrap_nat (show n < 9223372036854775807 by omega), ev_ite_iff, ev_none_iff]
        rw [if_pos q1, if_pos q0, if_pos q1, if_pos h, if_pos ha]
        exact r1
      · simp only [impl_TruncateLog_h5_eq, rdT_get (e := EntK) hx, wrap_nat (show n < 9223372036854775807 by omega), ev_ite_iff, ev_none_iff]
        rw [if_pos q1, if_pos q0, if_pos q1, if_pos h, if_pos ha]
        exact r2
    · obtain ⟨r, r1, r2, r3⟩ := ih a (b ++ [x]) (by simp only [List.length_append, List.length_cons, List.length_nil]; omega)
      refine ⟨r, ev_shift ?_, ev_shift ?_, r3⟩
      · simp only [spec_TruncateLog_h5_eq, rdT_get (e := EntK) hx, wrap_nat (show n < 9223372036854775807 by omega), ev_ite_iff, ev_none_iff]
        rw [if_pos q1, if_pos q0, if_pos q1, if_neg h, if_pos hb]
        exact r1
      · simp only [impl_TruncateLog_h5_eq, rdT_get (e := EntK) hx, wrap_nat (show n < 9223372036854775807 by omega), ev_ite_iff, ev_none_iff]
        rw [if_pos q1, if_pos q0, if_pos q1, if_neg h, if_pos hb]
        exact r2
theorem law (a0 : List EntT) (a1 : Int) (h0 : okT (.slice EntK) a0) (h1 : okT (.int .i64) a1) : ∃ k, laws_FnExactTruncateLog k a0 a1 = some true := by
  apply ev_fuel
  refine ev_congr (fun k => laws_FnExactTruncateLog_eq k a0 a1) ?_
  obtain ⟨v, hv, _, hB⟩ := szEntryS_ev a0 (Nat.le_trans h0.1 (by omega)) (fun x hx => ⟨(h0.2 x hx).2.1, (h0.2 x hx).2.2.1⟩) 1048576 (by omega) (by omega)
  refine ev_bind hv ?_
  by_cases hneg : v < 0
  · exact ev_if_pos hneg (ev_some _)
  refine ev_if_neg hneg ?_
  have hs := hB (by omega)
  have to := toEntryS_ev a0 hs.1
  have main : ∃ r : List EntT × (List EntT × Bool), Ev (fun k => spec_TruncateLog k a0 a1) r ∧ Ev (fun k => impl_TruncateLog k a0 a1) r ∧ r.1.length ≤ 80 ∧ r.2.1.length ≤ 80 := by
    have s1 := specLog_ev a0 hs.1 hs.2
    have i1 := implLog_ev a0 hs.1 hs.2
    cases hg : logB a0 with
    | false =>
      rw [hg] at s1 i1
      exact ⟨([], ([], false)), ev_congr (fun k => spec_TruncateLog_eq k a0 a1) (ev_bind s1 (ev_if_pos (by simp) (ev_some _))), ev_congr (fun k => impl_TruncateLog_eq k a0 a1) (ev_bind i1 (ev_if_pos (by simp) (ev_some _))), by simp, by simp⟩
    | true =>
      rw [hg] at s1 i1
      have h80 := (log_all hg).2
      have s2 := l1In_ev a1 0 1048575
      have i2 := in_ev a1 0 1048575
      by_cases hr : 0 ≤ a1 ∧ a1 ≤ 1048575
      · rw [decide_eq_true hr] at s2 i2
        obtain ⟨r, r1, r2, r3⟩ := parts_ev a0 a1 h80
        exact ⟨r, ev_congr (fun k => spec_TruncateLog_eq k a0 a1) (ev_bind s1 (ev_if_neg (by simp) (ev_bind s2 (ev_if_neg (by simp) r1)))), ev_congr (fun k => impl_TruncateLog_eq k a0 a1) (ev_bind i1 (ev_if_neg (by simp) (ev_bind i2 (ev_if_neg (by simp) r2)))), r3⟩
      · rw [decide_eq_false hr] at s2 i2
        exact ⟨([], ([], false)), ev_congr (fun k => spec_TruncateLog_eq k a0 a1) (ev_bind s1 (ev_if_neg (by simp) (ev_bind s2 (ev_if_pos (by simp) (ev_some _))))), ev_congr (fun k => impl_TruncateLog_eq k a0 a1) (ev_bind i1 (ev_if_neg (by simp) (ev_bind i2 (ev_if_pos (by simp) (ev_some _))))), by simp, by simp⟩
  obtain ⟨r, b1, b2, hr1, hr2⟩ := main
  have eq1 := eqEntryS_ev r.1 (by omega)
  have eq2 := eqEntryS_ev r.2.1 (by omega)
  have mx := markEntryS_ev a0 1 (by omega) (by omega)
  have mk := markEntryS_ev r.1 1 (by omega) (by omega)
  have mk2 := markEntryS_ev r.2.1 (1 + 6 * (r.1.length : Int)) (by omega) (by omega)
  have hd := heldEntryS_ev 1 r.1.length (by omega) (by omega)
  have hd2 := heldEntryS_ev (1 + 6 * (r.1.length : Int)) r.2.1.length (by omega) (by omega)
  exact ev_bind to (ev_bind b1 (ev_bind to (ev_bind b2 (ev_bind eq1 (ev_if_neg (by simp) (ev_bind eq2 (ev_if_neg (by simp) (ev_if_neg (by simp) (ev_bind to (ev_bind (eqEntryS_ev a0 (by omega)) (ev_if_neg (by simp) (ev_bind mx (ev_if_neg (by omega) (ev_bind eq1 (ev_if_neg (by simp) (ev_bind eq2 (ev_if_neg (by simp) (ev_if_neg (by simp) (ev_bind mk (ev_bind mk2 (ev_bind hd (ev_if_neg (by omega) (ev_bind hd2 (ev_if_neg (by omega) (ev_if_neg (by simp) (ev_bind to (ev_bind b2 (ev_bind eq1 (ev_if_neg (by simp) (ev_bind eq2 (ev_if_neg (by simp) (ev_if_neg (by simp) (ev_bind hd (ev_if_neg (by omega) (ev_bind hd2 (ev_if_neg (by omega) (ev_if_neg (by simp) (ev_some _))))))))))))))))))))))))))))))))))))))

end Go.Proofs.YtaenobdphjindaaDoor.Fms
