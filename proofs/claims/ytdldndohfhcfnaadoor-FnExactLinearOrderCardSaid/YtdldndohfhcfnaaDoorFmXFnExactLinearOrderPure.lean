/- What the law's functions give: the pure part. -/
import Derived.Test.YtdldndohfhcfnaaDoorFmAid
import Derived.Test.YtdldndohfhcfnaaDoorFmOpn
import Derived.Test.YtdldndohfhcfnaaDoorFmXFnExactLinearOrderEq
set_option autoImplicit true
set_option maxRecDepth 100000
set_option linter.unusedVariables false
set_option linter.unusedSimpArgs false
set_option linter.unnecessarySimpa false
set_option linter.unusedSectionVars false
open Go Go.Fm Go.RowKit
namespace Go.Proofs.YtdldndohfhcfnaaDoor.Fms
/-! ### base -/
theorem l1In_ev (n lo hi : Int) : Ev (fun k => spec_l1In k n lo hi) (decide (lo ≤ n ∧ n ≤ hi)) := ev_congr (fun k => by rw [spec_l1In_eq]) (by by_cases h : lo ≤ n <;> simp [ev_some_iff, h])

/-! ### inn -/
theorem in_ev (n lo hi : Int) : Ev (fun k => impl_in k n lo hi) (decide (lo ≤ n ∧ n ≤ hi)) := ev_congr (fun k => by rw [impl_in_eq]) (by by_cases h : lo ≤ n <;> simp [ev_some_iff, h])

/-! ### keys -/
def keyByte (b : UInt8) : Bool := (decide (97 ≤ b.toNat) && decide (b.toNat ≤ 122)) || (decide (48 ≤ b.toNat) && decide (b.toNat ≤ 57))
def keyB (s : ByteArray) : Bool := decide (1 ≤ s.size ∧ s.size ≤ 8) && s.data.toList.all keyByte
def keyCut : List UInt8 := [97, 98, 99, 100, 101, 102, 103, 104, 105, 106, 107, 108, 109, 110, 111, 112, 113, 114, 115, 116, 117, 118, 119, 120, 121, 122, 48, 49, 50, 51, 52, 53, 54, 55, 56, 57]
theorem keyCut_has (b : UInt8) : keyCut.contains b = keyByte b := by
  have h : ∀ n : Fin 256, keyCut.contains (UInt8.ofNat n.val) = keyByte (UInt8.ofNat n.val) := by decide +kernel
  have := h ⟨b.toNat, b.toNat_lt⟩
  simpa using this
theorem drop_nil {α : Type} (p : α → Bool) (l : List α) : (l.dropWhile p).isEmpty = l.all p := by
  induction l with
  | nil => rfl
  | cons x l ih => cases h : p x <;> simp [List.dropWhile_cons, h, ih]
theorem all_drop {α : Type} (p : α → Bool) (l : List α) : (l.dropWhile p).all p = l.all p := by
  induction l with
  | nil => rfl
  | cons x l ih => cases h : p x <;> simp [List.dropWhile_cons, h, ih]
theorem trim_nil (l : List UInt8) : (Go.Lib.trimS l keyCut).isEmpty = l.all keyByte := by
  unfold Go.Lib.trimS Go.Lib.trimLeftS Go.Lib.trimRightS
  rw [drop_nil, List.all_reverse, all_drop, List.all_reverse]
  congr 1
  funext b
  exact keyCut_has b
theorem mk_nil (l : List UInt8) : decide ((⟨l.toArray⟩ : ByteArray) = ByteArray.mk (Array.mk [])) = l.isEmpty := by
  cases l with
  | nil => exact decide_eq_true rfl
  | cons x l => exact decide_eq_false (fun h => by have := congrArg (fun b : ByteArray => b.data.size) h; simp at this)
theorem isKey_ev (s : ByteArray) : Ev (fun k => impl_isKey k s) (keyB s) := by
  refine ev_congr (fun k => impl_isKey_eq k s) ?_
  have e : MapW.strings_Trim.f s ⟨#[97, 98, 99, 100, 101, 102, 103, 104, 105, 106, 107, 108, 109, 110, 111, 112, 113, 114, 115, 116, 117, 118, 119, 120, 121, 122, 48, 49, 50, 51, 52, 53, 54, 55, 56, 57]⟩ = if s.size ≤ 9223372036854775807 then some ⟨(Go.Lib.trimS s.data.toList keyCut).toArray⟩ else none := by
    unfold MapW.strings_Trim.f
    by_cases h : s.size ≤ 9223372036854775807
    · rw [if_pos ⟨h, by decide, by decide⟩, if_pos h]; rfl
    · rw [if_neg (fun hh => h hh.1), if_neg h]
  simp only [e]
  unfold keyB
  by_cases h1 : (1 : Int) ≤ (s.size : Int)
  · by_cases h2 : (s.size : Int) ≤ 8
    · have h3 : 1 ≤ s.size ∧ s.size ≤ 8 := by omega
      rw [if_pos h1, if_pos h2, if_pos (by omega)]
      simp only [Option.bind_some, mk_nil, trim_nil, h3, decide_true, and_self, Bool.true_and]
      exact ev_some _
    · have h3 : ¬ (1 ≤ s.size ∧ s.size ≤ 8) := by omega
      rw [if_pos h1, if_neg h2]
      simp only [h3, decide_false, Bool.false_and]
      exact ev_some _
  · have h3 : ¬ (1 ≤ s.size ∧ s.size ≤ 8) := by omega
    rw [if_neg h1]
    simp only [h3, decide_false, Bool.false_and]
    exact ev_some _
theorem l1Key_ev (s : ByteArray) (hs : s.size ≤ 140737488355328) : Ev (fun k => spec_l1Key k s) (keyB s) := by
  have hl := size_len s
  have key := drop_ind0 s.data.toList (fun n rest => Ev (fun k => spec_l1Key_h2 k s (n : Int)) (rest.all keyByte && decide (1 ≤ s.size ∧ s.size ≤ 8))) ?_ ?_
  · refine ev_congr (fun k => spec_l1Key_eq k s) ?_
    unfold keyB
    rw [Bool.and_comm]
    exact key
  · refine ev_shift ?_
    simp only [spec_l1Key_h2_eq, ev_ite_iff, ev_bind_iff (l1In_ev _ _ _), ev_some_iff]
    rw [← hl, if_neg (by omega)]
    simp only [List.all_nil, Bool.true_and]
    congr 1
    exact propext ⟨fun h => by omega, fun h => by omega⟩
  · intro n b rest hn hx hd ih
    refine ev_shift ?_
    simp only [spec_l1Key_h2_eq, bt_nat hx, wrap_nat (show n < 9223372036854775807 by omega), ev_ite_iff, ev_some_iff, ev_none_iff, List.all_cons]
    rw [if_pos (by omega), if_pos (by omega), if_pos (by omega)]
    cases hp : keyByte b with
    | true =>
      simp only [Bool.true_and]
      simp only [keyByte, Bool.or_eq_true, Bool.and_eq_true, decide_eq_true_eq] at hp
      split
      · split
        · exact ih
        · rw [if_pos (by omega), if_neg (by omega)]; exact ih
      · rw [if_pos (by omega), if_neg (by omega)]; exact ih
    | false =>
      simp only [keyByte, Bool.or_eq_false_iff, Bool.and_eq_false_iff, decide_eq_false_iff_not] at hp
      simp only [Bool.false_and]
      split
      · rw [if_neg (by omega)]
        split
        · rw [if_pos (by omega)]; trivial
        · trivial
      · split
        · rw [if_pos (by omega)]; trivial
        · trivial

/-! ### allloop -/
/-! a loop that asks the same of each -/
def allFrom {α : Type} (p : Nat → α → Bool) : Nat → List α → Bool
  | _, [] => true
  | n, x :: l => p n x && allFrom p (n + 1) l
theorem allFrom_iff {α : Type} {p : Nat → α → Bool} : ∀ {l : List α} {n : Nat}, allFrom p n l = true ↔ ∀ i x, l[i]? = some x → p (n + i) x = true
  | [], n => by simp [allFrom]
  | x :: l, n => by
    simp only [allFrom, Bool.and_eq_true, allFrom_iff (l := l)]
    constructor
    · rintro ⟨h1, h2⟩ i y hy
      cases i with
      | zero => simp at hy; subst hy; exact h1
      | succ i => rw [show n + (i + 1) = n + 1 + i by omega]; exact h2 i y (by simpa using hy)
    · intro h
      refine ⟨h 0 x (by simp), fun i y hy => ?_⟩
      rw [show n + 1 + i = n + (i + 1) by omega]
      exact h (i + 1) y (by simpa using hy)
theorem all_loop {α : Type} (xs : List α) (H : Nat → Int → Option Bool) (p : Nat → α → Bool) (r : Bool) (hend : Ev (fun k => H k (xs.length : Int)) r)
    (hstep : ∀ n x v, n < xs.length → xs[n]? = some x → Ev (fun k => H k ((n + 1 : Nat) : Int)) v → Ev (fun k => H (k + 1) (n : Int)) (p n x && v)) : Ev (fun k => H k 0) (allFrom p 0 xs && r) := by
  have := drop_ind0 xs (fun n rest => Ev (fun k => H k (n : Int)) (allFrom p n rest && r)) (by simpa [allFrom] using hend) (fun n x rest hn hx _ ih => ?_)
  · simpa using this
  · refine ev_shift ?_
    have h := hstep n x _ hn hx ih
    rw [← Bool.and_assoc] at h
    exact h

/-! ### value -/
def chB (b : UInt8) : Bool := decide (32 ≤ b.toNat) && (decide (b.toNat ≤ 126) && !decide (b.toNat = 59))
def valB (s : ByteArray) : Bool := allFrom (fun _ b => chB b) 0 s.data.toList && decide (s.size ≤ 20)
theorem isValue_ev (s : ByteArray) (hs : s.size ≤ 140737488355328) : Ev (fun k => impl_isValue k s) (valB s) := by
  have hl := size_len s
  refine ev_congr (fun k => impl_isValue_eq k s) ?_
  refine all_loop s.data.toList (fun k i => impl_isValue_h2 k s (s.size : Int) i) (fun _ b => chB b) (decide (s.size ≤ 20)) ?_ ?_
  · refine ev_shift ?_
    simp only [impl_isValue_h2_eq, ev_ite_iff, ev_some_iff]
    rw [← hl, if_neg (by omega)]
    congr 1
    exact propext ⟨fun h => by omega, fun h => by omega⟩
  · intro n b v hn hx hv
    simp only [impl_isValue_h2_eq, bt_nat hx, wrap_nat (show n < 9223372036854775807 by omega), ev_ite_iff, ev_some_iff, ev_none_iff]
    have e0 : (0 : Int) ≤ (n : Int) := by omega
    have e1 : (n : Int) < (s.size : Int) := by omega
    simp only [if_pos e0, if_pos e1]
    unfold chB
    by_cases h1 : (b.toNat : Int) < 32
    · rw [if_pos h1]; simp [show ¬ 32 ≤ b.toNat by omega]
    · rw [if_neg h1]
      by_cases h2 : 126 < (b.toNat : Int)
      · rw [if_pos h2]; simp [show ¬ b.toNat ≤ 126 by omega]
      · rw [if_neg h2]
        by_cases h3 : (b.toNat : Int) = 59
        · rw [if_pos h3]; simp [show b.toNat = 59 by omega]
        · rw [if_neg h3]
          simpa [show 32 ≤ b.toNat by omega, show b.toNat ≤ 126 by omega, show ¬ b.toNat = 59 by omega] using hv
theorem l1Value_ev (s : ByteArray) (hs : s.size ≤ 140737488355328) : Ev (fun k => spec_l1Value k s) (valB s) := by
  have hl := size_len s
  refine ev_congr (fun k => spec_l1Value_eq k s) ?_
  refine all_loop s.data.toList (fun k i => spec_l1Value_h2 k s i) (fun _ b => chB b) (decide (s.size ≤ 20)) ?_ ?_
  · refine ev_shift ?_
    simp only [spec_l1Value_h2_eq, ev_ite_iff, ev_some_iff]
    rw [← hl, if_neg (by omega)]
    congr 1
    exact propext ⟨fun h => by omega, fun h => by omega⟩
  · intro n b v hn hx hv
    simp only [spec_l1Value_h2_eq, bt_nat hx, wrap_nat (show n < 9223372036854775807 by omega), ev_ite_iff, ev_some_iff, ev_none_iff]
    have e0 : (0 : Int) ≤ (n : Int) := by omega
    have e1 : (n : Int) < (s.size : Int) := by omega
    simp only [if_pos e0, if_pos e1]
    unfold chB
    by_cases h1 : (b.toNat : Int) < 32
    · rw [if_pos h1]; simp [show ¬ 32 ≤ b.toNat by omega]
    · rw [if_neg h1]
      by_cases h2 : 126 < (b.toNat : Int)
      · rw [if_pos h2]; simp [show ¬ b.toNat ≤ 126 by omega]
      · rw [if_neg h2]
        by_cases h3 : (b.toNat : Int) = 59
        · rw [if_pos h3]; simp [show b.toNat = 59 by omega]
        · rw [if_neg h3]
          simpa [show 32 ≤ b.toNat by omega, show b.toNat ≤ 126 by omega, show ¬ b.toNat = 59 by omega] using hv

/-! ### sz2 -/
/-! two texts weigh what they weigh -/
theorem sz2 {F : Nat → Int → Option Int} {p q : ByteArray} (hp : p.size ≤ 140737488351232) (hq : q.size ≤ 140737488351232) (hs : ∀ k a, F k a = (if (wrap64 (a - (p.size : Int))) < 0 then some (-1) else (if (wrap64 ((wrap64 (a - (p.size : Int))) - (q.size : Int))) < 0 then some (-1) else some (wrap64 ((wrap64 (a - (p.size : Int))) - (q.size : Int))))))
    (a : Int) (h0 : 0 ≤ a) (h1 : a ≤ 1048576) : ∃ v, Ev (fun k => F k a) v ∧ v ≤ a ∧ (0 ≤ v → p.size ≤ 1048576 ∧ q.size ≤ 1048576) := by
  have w : wrap64 (a - (p.size : Int)) = a - p.size := wrap_of (by omega) (by omega)
  have w2 : wrap64 (a - (p.size : Int) - (q.size : Int)) = a - p.size - q.size := wrap_of (by omega) (by omega)
  by_cases h : a - (p.size : Int) < 0
  · exact ⟨-1, ev_congr (fun k => by rw [hs, w, if_pos h]) (ev_some _), by omega, fun h => by omega⟩
  · by_cases h' : a - (p.size : Int) - (q.size : Int) < 0
    · exact ⟨-1, ev_congr (fun k => by rw [hs, w, if_neg h, w2, if_pos h']) (ev_some _), by omega, fun h => by omega⟩
    · exact ⟨_, ev_congr (fun k => by rw [hs, w, if_neg h, w2, if_neg h']) (ev_some _), by omega, fun _ => by omega⟩

/-! ### cats -/
theorem wrap_i64 {x : Int} (h0 : -9223372036854775808 ≤ x) (h1 : x ≤ 9223372036854775807) : IntKind.wrap .i64 x = x := by
  rw [← wrapK_eq]; unfold wrapK; rw [if_pos rfl]; exact wrap_of h0 h1
theorem catS_size0 (a b : ByteArray) : (catS a b).size = a.size + b.size := by
  show (catS a b).data.size = a.data.size + b.data.size
  simp [catS]

/-! ### calls -/
abbrev CallT := Int × Bool × ByteArray × ByteArray × Int × Int
abbrev CallK : Kind := .struct (.pair (.int .i64) (.pair .bool (.pair .str (.pair .str (.pair (.int .i64) (.int .i64))))))
def szokCall (x : CallT) : Prop := x.2.2.1.size ≤ 140737488351232 ∧ x.2.2.2.1.size ≤ 140737488351232
def szBCall (x : CallT) : Prop := x.2.2.1.size ≤ 1048576 ∧ x.2.2.2.1.size ≤ 1048576
theorem szCall_ev (x : CallT) (hx : szokCall x) (a : Int) (h0 : 0 ≤ a) (ha : a ≤ 1048576) : ∃ v, Ev (fun k => laws_szCall k x a) v ∧ v ≤ a ∧ (0 ≤ v → szBCall x) := sz2 hx.1 hx.2 (fun k a => laws_szCall_eq k x a) a h0 ha
theorem toCall_ev (x : CallT) : Ev (fun k => laws_toCall k x) x := ev_congr (fun k => laws_toCall_eq k x) (ev_some x)
theorem eqCall_ev (x : CallT) : Ev (fun k => laws_eqCall k x x) true := ev_congr (fun k => laws_eqCall_eq k x x) (by simp [ev_some_iff])
theorem szCallS_ev (l) (hl : l.length ≤ 140737488355328) (hk : ∀ x ∈ l, szokCall x) (a : Int) (h0 : 0 ≤ a) (h1 : a ≤ 1048576) : ∃ v, Ev (fun k => laws_szCallS k l a) v ∧ v ≤ a ∧ (0 ≤ v → l.length ≤ 1048576 ∧ ∀ x ∈ l, szBCall x) :=
  sz_top (fun k l a => laws_szCallS_eq k l a) (sz_row (fun k l a i => laws_szCallS_h5_eq k l a i) (fun x hx a h0 h1 => szCall_ev x (hk x hx) a h0 h1) (by omega)) hl a h0 h1
theorem toCallS_ev (l) (hl : l.length ≤ 1048576) : Ev (fun k => laws_toCallS k l) l := by
  refine ev_congr (fun k => laws_toCallS_eq k l) ?_
  simp only [ev_ite_iff]
  rw [if_pos trivial, if_pos (by omega)]
  simpa using to_row (l := l) (cv := id) (z := _) (fun k l r i => laws_toCallS_h3_eq k l r i) (fun x _ => toCall_ev x) (by omega)
theorem eqCallS_ev (l) (hl : l.length ≤ 140737488355328) : Ev (fun k => laws_eqCallS k l l) true := by
  refine ev_congr (fun k => laws_eqCallS_eq k l l) ?_
  simp only [ev_ite_iff]
  rw [if_neg (by simp)]
  exact eq_row (l := l) (fun k a b i => laws_eqCallS_h4_eq k a b i) (fun x _ => eqCall_ev x) (by omega)
theorem mgetT_put : ∀ (m : List (Int × Bool)) (n x : Int), mgetT (.int .i64) .bool (mputT (.int .i64) .bool m n true) x = (decide (x = n) || mgetT (.int .i64) .bool m x)
  | [], n, x => by
    by_cases h : x = n <;> simp [mgetT, mputT, mfind, eqT, h, zeroT]
  | p :: m, n, x => by
    have ih := mgetT_put m n x
    simp only [mgetT, mputT, mfind, eqT] at ih ⊢
    by_cases h1 : n = p.1 <;> by_cases h2 : x = p.1 <;> by_cases h3 : x = n <;> simp_all [mfind, eqT]
def baseOk (c : CallT) : Bool := decide (0 ≤ c.1 ∧ c.1 ≤ 9) && (keyB c.2.2.1 && (valB c.2.2.2.1 && (!decide (c.2.2.2.2.1 < 0) && (!decide (c.2.2.2.2.2 ≤ c.2.2.2.2.1) && !decide (1000000 ≤ c.2.2.2.2.2)))))
def clashT (c o : CallT) : Bool := decide (o.2.2.2.2.1 = c.2.2.2.2.1) || (decide (o.2.2.2.2.1 = c.2.2.2.2.2) || (decide (o.2.2.2.2.2 = c.2.2.2.2.1) || decide (o.2.2.2.2.2 = c.2.2.2.2.2)))
def overT (c o : CallT) : Bool := decide (o.1 = c.1) && (decide (o.2.2.2.2.1 < c.2.2.2.2.2) && decide (c.2.2.2.2.1 < o.2.2.2.2.2))
def callsFrom (p : List CallT) : List CallT → Bool
  | [] => true
  | c :: r => baseOk c && (p.all (fun o => !clashT c o && !overT c o) && callsFrom (p ++ [c]) r)
def callsB (l : List CallT) : Bool := callsFrom [] l && decide (l.length ≤ 7)
theorem dec_seven (n : Nat) : decide ((n : Int) ≤ 7) = decide (n ≤ 7) := by by_cases h : n ≤ 7 <;> simp [h] <;> omega
theorem calls_loop {H : Nat → Int → Option Bool} (p : List CallT) (f : CallT → Bool) (r : Bool) (hend : Ev (fun k => H k (p.length : Int)) r)
    (hstep : ∀ n o v, n < p.length → p[n]? = some o → Ev (fun k => H k ((n + 1 : Nat) : Int)) v → Ev (fun k => H (k + 1) (n : Int)) (f o && v)) : Ev (fun k => H k 0) (p.all f && r) := by
  have := all_loop p H (fun _ o => f o) r hend hstep
  have e : ∀ (l : List CallT) (n : Nat), allFrom (fun _ o => f o) n l = l.all f := by
    intro l
    induction l with
    | nil => intro n; rfl
    | cons o l ih => intro n; simp only [allFrom, ih, List.all_cons]
  rw [e] at this
  exact this
theorem overlap_ev (o c : CallT) : Ev (fun k => spec_l7Overlap k o c) (decide (o.2.2.2.2.1 < c.2.2.2.2.2) && decide (c.2.2.2.2.1 < o.2.2.2.2.2)) := by
  refine ev_congr (fun k => spec_l7Overlap_eq k o c) ?_
  simp only [ev_ite_iff, ev_some_iff]
  by_cases h : o.2.2.2.2.1 < c.2.2.2.2.2 <;> simp [h]
theorem specCalls_ev (l : List CallT) (hl : l.length ≤ 1048576) (hk : ∀ x ∈ l, szBCall x) : Ev (fun k => spec_GoodCalls k l) (callsB l) := by
  refine ev_congr (fun k => spec_GoodCalls_eq k l) ?_
  refine drop_ind0 l (fun n rest => Ev (fun k => spec_GoodCalls_h2 k l l (l.length : Int) (n : Int)) (callsFrom (l.take n) rest && decide (l.length ≤ 7))) ?_ ?_
  · exact ev_last fun k => by rw [spec_GoodCalls_h2_eq, if_neg (by omega)]; simp [callsFrom, dec_seven]
  · intro n c rest hn hc _ ih
    rw [take_snoc hc] at ih
    have hz := hk c (List.mem_of_getElem? hc)
    have hlen : (l.take n).length = n := by simp; omega
    have hsl : (List.drop (Int.toNat 0) (List.take (Int.toNat (n : Int)) l)) = l.take n := by simp
    have inner : Ev (fun k => spec_GoodCalls_h7 k l c l (l.length : Int) (n : Int) (l.take n) ((l.take n).length : Int) 0) ((l.take n).all (fun o => !clashT c o && !overT c o) && (callsFrom (l.take n ++ [c]) rest && decide (l.length ≤ 7))) := by
      refine calls_loop (H := fun k i => spec_GoodCalls_h7 k l c l (l.length : Int) (n : Int) (l.take n) ((l.take n).length : Int) i) (l.take n) _ _ ?_ ?_
      · refine ev_shift ?_
        simp only [spec_GoodCalls_h7_eq, wrap_nat (show n < 9223372036854775807 by omega), ev_ite_iff]
        rw [if_neg (by omega)]
        exact ih
      · intro j o v hj ho H
        have q0 : (0 : Int) ≤ (j : Int) := by omega
        have q1 : (j : Int) < ((l.take n).length : Int) := by omega
        simp only [spec_GoodCalls_h7_eq, rdT_get (e := CallK) ho, wrap_nat (show j < 9223372036854775807 by omega), ev_bind_iff (overlap_ev o c), ev_ite_iff, ev_none_iff, ev_some_iff]
        rw [if_pos q1, if_pos q0, if_pos q1]
        unfold clashT overT
        by_cases a1 : o.2.2.2.2.1 = c.2.2.2.2.1
        · simp [a1]
        · by_cases a2 : o.2.2.2.2.1 = c.2.2.2.2.2
          · simp [a1, a2]
          · by_cases a3 : o.2.2.2.2.2 = c.2.2.2.2.1
            · simp [a1, a2, a3]
            · by_cases a4 : o.2.2.2.2.2 = c.2.2.2.2.2
              · simp [a1, a2, a3, a4]
              · by_cases a5 : o.1 = c.1
                · by_cases a6 : o.2.2.2.2.1 < c.2.2.2.2.2 ∧ c.2.2.2.2.1 < o.2.2.2.2.2
                  · simp [a1, a2, a3, a4, a5, a6]
                  · have e6 : (decide (o.2.2.2.2.1 < c.2.2.2.2.2) && decide (c.2.2.2.2.1 < o.2.2.2.2.2)) = false := by
                      rw [Bool.and_eq_false_iff, decide_eq_false_iff_not, decide_eq_false_iff_not]; omega
                    rw [if_neg a1, if_neg a2, if_neg a3, if_neg a4, if_pos a5, e6]
                    simpa [a1, a2, a3, a4] using H
                · simpa [a1, a2, a3, a4, a5] using H
    have q0 : (0 : Int) ≤ (n : Int) := by omega
    have q1 : (n : Int) < (l.length : Int) := by omega
    have q2 : (n : Int) ≤ (l.length : Int) := by omega
    refine ev_shift ?_
    simp only [spec_GoodCalls_h2_eq, rdT_get (e := CallK) hc, hsl, ev_bind_iff (l1In_ev _ _ _), ev_bind_iff (l1Key_ev c.2.2.1 (Nat.le_trans hz.1 (by omega))), ev_bind_iff (l1Value_ev c.2.2.2.1 (Nat.le_trans hz.2 (by omega))), ev_ite_iff, ev_none_iff, ev_some_iff]
    rw [if_pos q1, if_pos q0, if_pos q1]
    have hno : (callsFrom (l.take n) (c :: rest) && decide (l.length ≤ 7)) = (baseOk c && ((l.take n).all (fun o => !clashT c o && !overT c o) && (callsFrom (l.take n ++ [c]) rest && decide (l.length ≤ 7)))) := by simp only [callsFrom, Bool.and_assoc]
    rw [hno]
    unfold baseOk
    by_cases b0 : 0 ≤ c.1 ∧ c.1 ≤ 9
    · cases b1 : keyB c.2.2.1 with
      | false => simp [b0]
      | true =>
        cases b2 : valB c.2.2.2.1 with
        | false => simp [b0]
        | true =>
          by_cases b3 : c.2.2.2.2.1 < 0
          · simp [b0, b3]
          · by_cases b4 : c.2.2.2.2.2 ≤ c.2.2.2.2.1
            · simp [b0, b3, b4]
            · by_cases b5 : 1000000 ≤ c.2.2.2.2.2
              · simp [b0, b3, b4, b5]
              · simp only [b0, b3, b4, b5, and_self, decide_true, decide_false, Bool.not_true, Bool.not_false, Bool.false_eq_true, if_false, Bool.true_and]
                rw [if_pos q0, if_pos q2]
                exact inner
    · simp [b0]
theorem implCalls_ev (l : List CallT) (hl : l.length ≤ 1048576) (hk : ∀ x ∈ l, szBCall x) : Ev (fun k => impl_areCalls k l) (callsB l) := by
  refine ev_congr (fun k => impl_areCalls_eq k l) ?_
  have key := drop_ind0 l (fun n rest => ∀ m : List (Int × Bool), (∀ x, mgetT (.int .i64) .bool m x = (l.take n).any (fun o => decide (o.2.2.2.2.1 = x) || decide (o.2.2.2.2.2 = x))) → Ev (fun k => impl_areCalls_h3 k l m l (l.length : Int) (n : Int)) (callsFrom (l.take n) rest && decide (l.length ≤ 7))) ?_ ?_
  · exact key [] (by intro x; simp [mgetT, mfind, zeroT])
  · intro m _
    exact ev_last fun k => by rw [impl_areCalls_h3_eq, if_neg (by omega)]; simp [callsFrom, dec_seven]
  · intro n c rest hn hc _ ih m hm
    rw [take_snoc hc] at ih
    have hz := hk c (List.mem_of_getElem? hc)
    have hlen : (l.take n).length = n := by simp; omega
    have hsl : (List.drop (Int.toNat 0) (List.take (Int.toNat (n : Int)) l)) = l.take n := by simp
    have hm2 : ∀ x, mgetT (.int .i64) .bool (mputT (.int .i64) .bool (mputT (.int .i64) .bool m c.2.2.2.2.1 true) c.2.2.2.2.2 true) x = (l.take n ++ [c]).any (fun o => decide (o.2.2.2.2.1 = x) || decide (o.2.2.2.2.2 = x)) := by
      intro x
      rw [mgetT_put, mgetT_put, hm x, List.any_append]
      simp only [List.any_cons, List.any_nil, Bool.or_false]
      have e4 : decide (x = c.2.2.2.2.1) = decide (c.2.2.2.2.1 = x) := decide_eq_decide.2 ⟨Eq.symm, Eq.symm⟩
      have e5 : decide (x = c.2.2.2.2.2) = decide (c.2.2.2.2.2 = x) := decide_eq_decide.2 ⟨Eq.symm, Eq.symm⟩
      rw [e4, e5]
      generalize ((l.take n).any fun o => decide (o.2.2.2.2.1 = x) || decide (o.2.2.2.2.2 = x)) = u
      cases u <;> cases decide (c.2.2.2.2.1 = x) <;> cases decide (c.2.2.2.2.2 = x) <;> rfl
    have inner : Ev (fun k => impl_areCalls_h10 k l (mputT (.int .i64) .bool (mputT (.int .i64) .bool m c.2.2.2.2.1 true) c.2.2.2.2.2 true) c l (l.length : Int) (n : Int) (l.take n) ((l.take n).length : Int) 0) ((l.take n).all (fun o => !overT c o) && (callsFrom (l.take n ++ [c]) rest && decide (l.length ≤ 7))) := by
      refine calls_loop (H := fun k i => impl_areCalls_h10 k l (mputT (.int .i64) .bool (mputT (.int .i64) .bool m c.2.2.2.2.1 true) c.2.2.2.2.2 true) c l (l.length : Int) (n : Int) (l.take n) ((l.take n).length : Int) i) (l.take n) _ _ ?_ ?_
      · refine ev_shift ?_
        simp only [impl_areCalls_h10_eq, wrap_nat (show n < 9223372036854775807 by omega), ev_ite_iff]
        rw [if_neg (by omega)]
        exact ih _ hm2
      · intro j o v hj ho H
        have q0 : (0 : Int) ≤ (j : Int) := by omega
        have q1 : (j : Int) < ((l.take n).length : Int) := by omega
        simp only [impl_areCalls_h10_eq, rdT_get (e := CallK) ho, wrap_nat (show j < 9223372036854775807 by omega), ev_ite_iff, ev_none_iff, ev_some_iff]
        rw [if_pos q1, if_pos q0, if_pos q1]
        unfold overT
        by_cases a5 : o.1 = c.1
        · by_cases a6 : o.2.2.2.2.1 < c.2.2.2.2.2
          · by_cases a7 : c.2.2.2.2.1 < o.2.2.2.2.2
            · simp [a5, a6, a7]
            · simpa [a5, a6, a7] using H
          · simpa [a5, a6] using H
        · simpa [a5, Ne.symm a5] using H
    have clash : (l.take n).any (fun o => clashT c o) = (mgetT (.int .i64) .bool m c.2.2.2.2.1 || mgetT (.int .i64) .bool m c.2.2.2.2.2) := by
      rw [hm, hm]
      generalize l.take n = p
      induction p with
      | nil => rfl
      | cons o p ih2 =>
        simp only [List.any_cons]
        rw [ih2]
        simp only [clashT]
        generalize (p.any fun o => decide (o.2.2.2.2.1 = c.2.2.2.2.1) || decide (o.2.2.2.2.2 = c.2.2.2.2.1)) = u
        generalize (p.any fun o => decide (o.2.2.2.2.1 = c.2.2.2.2.2) || decide (o.2.2.2.2.2 = c.2.2.2.2.2)) = v
        cases u <;> cases v <;> cases decide (o.2.2.2.2.1 = c.2.2.2.2.1) <;> cases decide (o.2.2.2.2.1 = c.2.2.2.2.2) <;> cases decide (o.2.2.2.2.2 = c.2.2.2.2.1) <;> cases decide (o.2.2.2.2.2 = c.2.2.2.2.2) <;> rfl
    have split2 : (l.take n).all (fun o => !clashT c o && !overT c o) = (!((l.take n).any (fun o => clashT c o)) && (l.take n).all (fun o => !overT c o)) := by
      generalize l.take n = p
      induction p with
      | nil => rfl
      | cons o p ih2 =>
        simp only [List.all_cons, List.any_cons, ih2]
        cases clashT c o <;> cases overT c o <;> simp
    have q0 : (0 : Int) ≤ (n : Int) := by omega
    have q1 : (n : Int) < (l.length : Int) := by omega
    have q2 : (n : Int) ≤ (l.length : Int) := by omega
    refine ev_shift ?_
    simp only [impl_areCalls_h3_eq, rdT_get (e := CallK) hc, hsl, ev_bind_iff (in_ev _ _ _), ev_bind_iff (isKey_ev c.2.2.1), ev_bind_iff (isValue_ev c.2.2.2.1 (Nat.le_trans hz.2 (by omega))), ev_ite_iff, ev_none_iff, ev_some_iff]
    rw [if_pos q1, if_pos q0, if_pos q1]
    have hno : (callsFrom (l.take n) (c :: rest) && decide (l.length ≤ 7)) = (baseOk c && ((!(mgetT (.int .i64) .bool m c.2.2.2.2.1 || mgetT (.int .i64) .bool m c.2.2.2.2.2)) && ((l.take n).all (fun o => !overT c o) && (callsFrom (l.take n ++ [c]) rest && decide (l.length ≤ 7))))) := by
      rw [← clash]
      simp only [callsFrom, split2, Bool.and_assoc]
    rw [hno]
    unfold baseOk
    by_cases b0 : 0 ≤ c.1 ∧ c.1 ≤ 9
    · cases b1 : keyB c.2.2.1 with
      | false => simp [b0]
      | true =>
        cases b2 : valB c.2.2.2.1 with
        | false => simp [b0]
        | true =>
          by_cases b3 : c.2.2.2.2.1 < 0
          · simp [b0, b3]
          · by_cases b4 : c.2.2.2.2.2 ≤ c.2.2.2.2.1
            · simp [b0, b3, b4]
            · by_cases b5 : 1000000 ≤ c.2.2.2.2.2
              · simp [b0, b3, b4, b5]
              · simp only [b0, b3, b4, b5, and_self, decide_true, decide_false, Bool.not_true, Bool.not_false, Bool.false_eq_true, if_false, Bool.true_and]
                cases b6 : mgetT (.int .i64) .bool m c.2.2.2.2.1 with
                | true => simp
                | false =>
                  cases b7 : mgetT (.int .i64) .bool m c.2.2.2.2.2 with
                  | true => simp
                  | false =>
                    simp only [Bool.false_eq_true, if_false, Bool.or_false, Bool.not_false, Bool.true_and]
                    rw [if_pos q0, if_pos q2]
                    exact inner
    · simp [b0]
theorem calls_len {l : List CallT} (h : callsB l = true) : l.length ≤ 7 := by
  unfold callsB at h
  simp only [Bool.and_eq_true, decide_eq_true_eq] at h
  exact h.2

/-! ### cellty -/
abbrev CellT := ByteArray × ByteArray
abbrev CellK : Kind := .struct (.pair .str .str)

/-! ### bsearch -/
/-! texts in their order -/
theorem bl_irrefl : ∀ x : List UInt8, Op.bytesLess x x = false
  | [] => rfl
  | a :: x => by simp [Op.bytesLess, bl_irrefl x]
theorem bl_trans : ∀ {x y z : List UInt8}, Op.bytesLess x y = true → Op.bytesLess y z = true → Op.bytesLess x z = true
  | x, y, [], _, h => by cases y <;> simp [Op.bytesLess] at h
  | x, [], c :: z, h, _ => by cases x <;> simp [Op.bytesLess] at h
  | [], b :: y, c :: z, _, _ => rfl
  | a :: x, b :: y, c :: z, h1, h2 => by
    simp only [Op.bytesLess, Bool.or_eq_true, Bool.and_eq_true, decide_eq_true_eq, beq_iff_eq] at h1 h2 ⊢
    rcases h1 with h1 | ⟨rfl, h1⟩
    · rcases h2 with h2 | ⟨rfl, h2⟩
      · exact .inl (UInt8.lt_trans h1 h2)
      · exact .inl h1
    · rcases h2 with h2 | ⟨rfl, h2⟩
      · exact .inl h2
      · exact .inr ⟨rfl, bl_trans h1 h2⟩
theorem cmp_facts : ∀ (x y : List UInt8), (Go.Lib.compareBytes x y < 0 ↔ Op.bytesLess x y = true) ∧ (Go.Lib.compareBytes x y = 0 ↔ x = y)
  | [], [] => by simp [Go.Lib.compareBytes, Op.bytesLess]
  | [], _ :: _ => by simp [Go.Lib.compareBytes, Op.bytesLess]
  | _ :: _, [] => by simp [Go.Lib.compareBytes, Op.bytesLess]
  | a :: x, b :: y => by
    obtain ⟨h1, h2⟩ := cmp_facts x y
    simp only [Go.Lib.compareBytes, Op.bytesLess]
    by_cases hab : a < b
    · have hne : a ≠ b := fun e => by subst e; exact absurd hab (UInt8.lt_irrefl _)
      simp [hab, hne]
    · by_cases hba : b < a
      · have hne : a ≠ b := fun e => by subst e; exact absurd hba (UInt8.lt_irrefl _)
        simp [hab, hba, hne]
      · have he : a = b := UInt8.le_antisymm (UInt8.not_lt.1 hba) (UInt8.not_lt.1 hab)
        subst he
        simp only [hab, if_false, h1, h2, decide_false, Bool.false_or, beq_self_eq_true, Bool.true_and, List.cons.injEq, true_and, and_self]
theorem cmp_neg (a b : ByteArray) : gvCompare a b < 0 ↔ lessS a b = true := by
  unfold gvCompare lessS
  rw [ByteArray.toList_eq, ByteArray.toList_eq]
  exact (cmp_facts _ _).1
theorem cmp_zero (a b : ByteArray) : gvCompare a b = 0 ↔ a = b := by
  unfold gvCompare
  rw [(cmp_facts _ _).2]
  exact ⟨fun h => Go.WideShapes.bytes_inj h, fun h => by rw [h]⟩
theorem lessS_trans {a b c : ByteArray} (h : lessS a b = true) (h' : lessS b c = true) : lessS a c = true := bl_trans h h'
theorem lessS_irrefl (a : ByteArray) : lessS a a = false := bl_irrefl _
/-! search -/
theorem mid_eq {a b : Nat} (h : a ≤ b) (hb : b ≤ 140737488355328) : (Go.IntKind.wrap Go.IntKind.i64 (Int.fdiv (Go.IntKind.wrap Go.IntKind.u64 (wrap64 ((a : Int) + (b : Int)))) (Int.instNatPow.1 2 (Min.min (Int.toNat 1) 64)))) = (((a + b) / 2 : Nat) : Int) := by
  have w1 : wrap64 ((a : Int) + (b : Int)) = ((a + b : Nat) : Int) := by rw [wrap_of (by omega) (by omega)]; omega
  have w2 : (Int.instNatPow.1 2 (Min.min (Int.toNat 1) 64) : Int) = 2 := by decide
  rw [w1, w2, wraps_u64 _ (by omega) (by omega)]
  have w3 : Int.fdiv ((a + b : Nat) : Int) 2 = (((a + b) / 2 : Nat) : Int) := by
    rw [Int.fdiv_eq_ediv_of_nonneg _ (by omega)]; omega
  rw [w3]
  have : ∀ n : Nat, n < 9223372036854775807 → Go.IntKind.wrap Go.IntKind.i64 (n : Int) = (n : Int) := fun n hn => by
    simp only [IntKind.wrap, IntKind.signed, IntKind.bits]
    simp
    omega
  exact this _ (by omega)
section
variable {e : Kind} {H : Nat → Int → Int → Option (Int × Bool)} {F : Nat → e.T → Option Int} {cv : e.T → Int} {l : List e.T}
theorem bs_ev (hl : l.length ≤ 140737488355328) (hF : ∀ x, Ev (fun k => F k x) (cv x))
    (hs : ∀ k lo hi, H (k + 1) lo hi = (if lo < hi then (if 0 ≤ (Go.IntKind.wrap Go.IntKind.i64 (Int.fdiv (Go.IntKind.wrap Go.IntKind.u64 (wrap64 (lo + hi))) (Int.instNatPow.1 2 (Min.min (Int.toNat 1) 64)))) then (if (Go.IntKind.wrap Go.IntKind.i64 (Int.fdiv (Go.IntKind.wrap Go.IntKind.u64 (wrap64 (lo + hi))) (Int.instNatPow.1 2 (Min.min (Int.toNat 1) 64)))) < (l.length : Int) then
      ((F k (rdT e l (Go.IntKind.wrap Go.IntKind.i64 (Int.fdiv (Go.IntKind.wrap Go.IntKind.u64 (wrap64 (lo + hi))) (Int.instNatPow.1 2 (Min.min (Int.toNat 1) 64)))))).bind fun t => if t < 0 then H k (wrap64 ((Go.IntKind.wrap Go.IntKind.i64 (Int.fdiv (Go.IntKind.wrap Go.IntKind.u64 (wrap64 (lo + hi))) (Int.instNatPow.1 2 (Min.min (Int.toNat 1) 64)))) + 1)) hi else H k lo (Go.IntKind.wrap Go.IntKind.i64 (Int.fdiv (Go.IntKind.wrap Go.IntKind.u64 (wrap64 (lo + hi))) (Int.instNatPow.1 2 (Min.min (Int.toNat 1) 64))))) else none) else none)
      else (if lo < (l.length : Int) then (if 0 ≤ lo then (if lo < (l.length : Int) then ((F k (rdT e l lo)).bind fun t => some (lo, decide (t = 0))) else none) else none) else some (lo, false)))) :
    ∃ (i : Nat) (f : Bool), Ev (fun k => H k 0 (l.length : Int)) ((i : Int), f) ∧ i ≤ l.length ∧ (∀ x, 0 < i → l[i - 1]? = some x → cv x < 0) ∧ (∀ x, l[i]? = some x → ¬ cv x < 0) ∧ (f = true ↔ ∃ x, l[i]? = some x ∧ cv x = 0) := by
  have key : ∀ d lo hi : Nat, hi - lo = d → lo ≤ hi → hi ≤ l.length → (∀ x, 0 < lo → l[lo - 1]? = some x → cv x < 0) → (∀ x, l[hi]? = some x → ¬ cv x < 0) →
      ∃ (i : Nat) (f : Bool), Ev (fun k => H k (lo : Int) (hi : Int)) ((i : Int), f) ∧ i ≤ l.length ∧ (∀ x, 0 < i → l[i - 1]? = some x → cv x < 0) ∧ (∀ x, l[i]? = some x → ¬ cv x < 0) ∧ (f = true ↔ ∃ x, l[i]? = some x ∧ cv x = 0) := by
    intro d
    induction d using Nat.strongRecOn with
    | ind d ih =>
      intro lo hi hd hle hhi h1 h2
      by_cases hlt : lo < hi
      · have hm : (lo + hi) / 2 < l.length := by omega
        have hx : l[(lo + hi) / 2]? = some l[(lo + hi) / 2] := List.getElem?_eq_getElem hm
        generalize l[(lo + hi) / 2] = x at hx
        have hmid := mid_eq hle (by omega)
        by_cases hc : cv x < 0
        · obtain ⟨i, f, r1, r2⟩ := ih (hi - ((lo + hi) / 2 + 1)) (by omega) ((lo + hi) / 2 + 1) hi rfl (by omega) hhi (fun y _ hy => by
            rw [show (lo + hi) / 2 + 1 - 1 = (lo + hi) / 2 from rfl, hx] at hy; cases hy; exact hc) h2
          refine ⟨i, f, ev_shift ?_, r2⟩
          simp only [hs, hmid, rdT_get hx, ev_bind_iff (hF x), ev_ite_iff, ev_none_iff, wrap_nat (show (lo + hi) / 2 < 9223372036854775807 by omega)]
          rw [if_pos (by omega), if_pos (by omega), if_pos (by omega), if_pos hc]
          exact r1
        · obtain ⟨i, f, r1, r2⟩ := ih ((lo + hi) / 2 - lo) (by omega) lo ((lo + hi) / 2) rfl (by omega) (by omega) h1 (fun y hy => by rw [hx] at hy; cases hy; exact hc)
          refine ⟨i, f, ev_shift ?_, r2⟩
          simp only [hs, hmid, rdT_get hx, ev_bind_iff (hF x), ev_ite_iff, ev_none_iff]
          rw [if_pos (by omega), if_pos (by omega), if_pos (by omega), if_neg hc]
          exact r1
      · have he : lo = hi := by omega
        subst he
        by_cases hlo : lo < l.length
        · have hx : l[lo]? = some l[lo] := List.getElem?_eq_getElem hlo
          generalize l[lo] = x at hx
          refine ⟨lo, decide (cv x = 0), ev_shift ?_, by omega, h1, h2, ?_⟩
          · simp only [hs, rdT_get hx, ev_bind_iff (hF x), ev_ite_iff, ev_none_iff, ev_some_iff]
            rw [if_neg (by omega), if_pos (by omega), if_pos (by omega), if_pos (by omega)]
            trivial
          · simp [hx]
        · refine ⟨lo, false, ev_shift ?_, by omega, h1, h2, ?_⟩
          · simp only [hs, ev_ite_iff, ev_none_iff, ev_some_iff]
            rw [if_neg (by omega), if_neg (by omega)]
            trivial
          · have : l[lo]? = none := List.getElem?_eq_none (by omega)
            simp [this]
  have := key l.length 0 l.length (by omega) (by omega) (by omega) (fun x h => absurd h (by omega)) (fun x h => by rw [List.getElem?_eq_none (by omega)] at h; cases h)
  simpa using this
/-- in a row in strict order, what is searched is where it is -/
def sortedBy (key : e.T → ByteArray) (l : List e.T) : Prop := ∀ i x y, l[i]? = some x → l[i + 1]? = some y → lessS (key x) (key y) = true
theorem sorted_lt {key : e.T → ByteArray} (h : sortedBy key l) : ∀ d i x y, l[i]? = some x → l[i + d + 1]? = some y → lessS (key x) (key y) = true := by
  intro d
  induction d with
  | zero => intro i x y hx hy; exact h i x y hx hy
  | succ d ih =>
    intro i x y hx hy
    have hlt : i + (d + 1) + 1 < l.length := by
      rcases Nat.lt_or_ge (i + (d + 1) + 1) l.length with h | h
      · exact h
      · rw [List.getElem?_eq_none h] at hy; cases hy
    have hz : l[i + d + 1]? = some l[i + d + 1] := List.getElem?_eq_getElem (by omega)
    exact lessS_trans (ih i x _ hx hz) (h (i + d + 1) _ y hz hy)
theorem bs_sorted {key : e.T → ByteArray} {s : ByteArray} (hsrt : sortedBy key l) {i : Nat} (h1 : ∀ x, 0 < i → l[i - 1]? = some x → gvCompare (key x) s < 0) (h2 : ∀ x, l[i]? = some x → ¬ gvCompare (key x) s < 0) (hi : i ≤ l.length)
    {j : Nat} {y : e.T} (hy : l[j]? = some y) (hk : key y = s) : j = i := by
  have hj : j < l.length := by
    rcases Nat.lt_or_ge j l.length with h | h
    · exact h
    · rw [List.getElem?_eq_none h] at hy; cases hy
  rcases Nat.lt_trichotomy j i with h | h | h
  · exfalso
    have hp : l[i - 1]? = some l[i - 1] := List.getElem?_eq_getElem (by omega)
    have hneg := h1 _ (by omega) hp
    rw [cmp_neg] at hneg
    by_cases he : j = i - 1
    · subst he
      rw [hp] at hy; cases hy
      rw [hk, lessS_irrefl] at hneg; cases hneg
    · have := sorted_lt hsrt (i - 1 - j - 1) j y _ hy (by rw [show j + (i - 1 - j - 1) + 1 = i - 1 by omega]; exact hp)
      rw [hk] at this
      have := lessS_trans this hneg
      rw [lessS_irrefl] at this; cases this
  · exact h
  · exfalso
    have hp : l[i]? = some l[i] := List.getElem?_eq_getElem (by omega)
    have hnn := h2 _ hp
    rw [cmp_neg] at hnn
    have := sorted_lt hsrt (j - i - 1) i _ y hp (by rw [show i + (j - i - 1) + 1 = j by omega]; exact hy)
    rw [hk] at this
    exact hnn this
end

/-! ### cells -/
/-! cells that are put in their places, looked up -/
def putC : List CellT → CellT → List CellT
  | [], x => [x]
  | y :: l, x => if lessS y.1 x.1 = true then y :: putC l x else if y.1 = x.1 then x :: l else x :: y :: l
def valC : List CellT → ByteArray → ByteArray
  | [], _ => ⟨#[]⟩
  | y :: l, key => if y.1 = key then y.2 else valC l key
theorem putC_len : ∀ (l : List CellT) (x : CellT), (putC l x).length ≤ l.length + 1
  | [], x => by simp [putC]
  | y :: l, x => by
    have := putC_len l x
    simp only [putC]
    split
    · simp only [List.length_cons]; omega
    · split <;> simp
theorem valC_put (key : ByteArray) : ∀ (l : List CellT) (x : CellT), valC (putC l x) key = if x.1 = key then x.2 else valC l key
  | [], x => by simp [putC, valC]
  | y :: l, x => by
    have ih := valC_put key l x
    simp only [putC]
    by_cases h : lessS y.1 x.1 = true
    · rw [if_pos h]
      simp only [valC, ih]
      by_cases h1 : y.1 = key
      · have : x.1 ≠ key := fun e => by rw [h1, e, lessS_irrefl] at h; cases h
        rw [if_pos h1, if_neg this, if_pos h1]
      · rw [if_neg h1, if_neg h1]
    · rw [if_neg h]
      by_cases h2 : y.1 = x.1
      · rw [if_pos h2]
        simp only [valC]
        by_cases h3 : x.1 = key
        · rw [if_pos h3, if_pos h3]
        · rw [if_neg h3, if_neg h3, if_neg (by rw [h2]; exact h3)]
      · rw [if_neg h2]
        simp only [valC]
theorem l3Cells_ev (l : List CellT) (x : CellT) (hl : l.length ≤ 1099511627776) : Ev (fun k => spec_l3Cells k l x) (putC l x) := by
  have h9 : ∀ (n : Nat) (acc : List CellT), n ≤ l.length → acc.length ≤ l.length + 1 → Ev (fun k => spec_l3Cells_h9 k l (n : Int) acc) (acc ++ l.drop n) := by
    intro n acc hn ha
    refine ev_shift ?_
    have hs : List.drop (Int.toNat (n : Int)) (List.take (Int.toNat ((l.length : Nat) : Int)) l) = l.drop n := by simp
    simp only [spec_l3Cells_h9_eq, ev_ite_iff, ev_some_iff, ev_none_iff, hs]
    rw [if_pos (by omega), if_pos (by omega), if_pos (by rw [List.length_drop]; omega)]
    trivial
  have key := drop_ind l (fun n rest => Ev (fun k => spec_l3Cells_h2 k l x (n : Int)) (l.take n ++ putC rest x)) ?_ ?_
  · refine ev_congr (fun k => spec_l3Cells_eq k l x) ?_
    have := key 0 (Nat.zero_le _)
    simpa using this
  · refine ev_shift ?_
    have hs : List.drop (Int.toNat 0) (List.take (Int.toNat ((l.length : Nat) : Int)) l) = l := by simp
    have := h9 l.length (([] ++ l) ++ List.cons x []) (Nat.le_refl _) (by simp)
    simp only [spec_l3Cells_h2_eq, ev_ite_iff, ev_none_iff, hs]
    rw [if_neg (by omega), if_pos (by omega), if_pos (by omega), if_pos (by omega), if_pos (by simp; omega), if_neg (by omega)]
    simpa [putC] using this
  · intro n y rest hn hy hd ih
    have q0 : (0 : Int) ≤ (n : Int) := by omega
    have q1 : (n : Int) < (l.length : Int) := by omega
    have hs : List.drop (Int.toNat 0) (List.take (Int.toNat (n : Int)) l) = l.take n := by simp
    have hlt : (l.take n).length = n := by simp; omega
    refine ev_shift ?_
    simp only [spec_l3Cells_h2_eq, rdT_get (e := CellK) hy, wrap_nat (show n < 9223372036854775807 by omega), ev_ite_iff, ev_none_iff, hs]
    rw [if_pos q1, if_pos q0, if_pos q1]
    simp only [putC]
    by_cases h : lessS y.1 x.1 = true
    · rw [if_pos h, if_pos h]
      rw [take_snoc hy] at ih
      simpa using ih
    · rw [if_neg h, if_neg h, if_pos q0, if_pos (by omega), if_pos (by rw [hlt]; omega), if_pos (by simp; omega), if_pos q1, if_pos q0, if_pos q1]
      by_cases h2 : y.1 = x.1
      · rw [if_pos h2, if_pos h2]
        have := h9 (n + 1) (([] ++ l.take n) ++ List.cons x []) hn (by simp; omega)
        rw [drop_next hd] at this
        simpa using this
      · rw [if_neg h2, if_neg h2]
        have := h9 n (([] ++ l.take n) ++ List.cons x []) (by omega) (by simp; omega)
        rw [hd] at this
        simpa using this
theorem mgetSS_put : ∀ (m : List (ByteArray × ByteArray)) (n v x : ByteArray), mgetT .str .str (mputT .str .str m n v) x = if n = x then v else mgetT .str .str m x
  | [], n, v, x => by
    by_cases h : n = x
    · subst h; simp [mgetT, mputT, mfind, eqT, zeroT]
    · simp [mgetT, mputT, mfind, eqT, h, zeroT, Ne.symm h]
  | p :: m, n, v, x => by
    have ih := mgetSS_put m n v x
    simp only [mgetT, mputT, mfind, eqT] at ih ⊢
    by_cases h1 : n = p.1 <;> by_cases h2 : x = p.1 <;> by_cases h3 : n = x <;> simp_all [mfind, eqT]

/-! ### cellval -/
theorem l3Value_ev (l : List CellT) (key : ByteArray) (hl : l.length ≤ 1048576) : Ev (fun k => spec_l3Value k l key) (valC l key) := by
  refine ev_congr (fun k => spec_l3Value_eq k l key) ?_
  refine drop_ind0 l (fun n rest => Ev (fun k => spec_l3Value_h2 k key l (l.length : Int) (n : Int)) (valC rest key)) ?_ ?_
  · exact ev_last fun k => by rw [spec_l3Value_h2_eq, if_neg (by omega)]; rfl
  · intro n y rest hn hy _ ih
    have q0 : (0 : Int) ≤ (n : Int) := by omega
    have q1 : (n : Int) < (l.length : Int) := by omega
    refine ev_shift ?_
    simp only [spec_l3Value_h2_eq, rdT_get (e := CellK) hy, wrap_nat (show n < 9223372036854775807 by omega), ev_ite_iff, ev_none_iff, ev_some_iff, valC]
    rw [if_pos q1, if_pos q0, if_pos q1]
    by_cases h : y.1 = key
    · rw [if_pos h, if_pos h]
    · rw [if_neg h, if_neg h]; exact ih

/-! ### fits0 -/
/-! calls in an order: whether each read has the value of the last write -/
theorem idx_nonneg {α : Type} (p : α → Bool) : ∀ (l : List α) (n : Nat), decide (0 ≤ idxFrom p n l) = l.any p
  | [], n => rfl
  | x :: l, n => by
    rw [List.any_cons, ← idx_nonneg p l (n + 1), idxFrom]
    by_cases h : p x = true <;> simp [h]
def rangeB (N n : Int) : Bool := decide (0 ≤ n ∧ n ≤ N - 1)
def fitsFrom (l : List CallT) : (ByteArray → ByteArray) → List Int → Bool
  | _, [] => true
  | f, n :: r => if (rdT CallK l n).2.1 = true then fitsFrom l (fun key => if (rdT CallK l n).2.2.1 = key then (rdT CallK l n).2.2.2.1 else f key) r
      else if f (rdT CallK l n).2.2.1 = (rdT CallK l n).2.2.2.1 then fitsFrom l f r else false
theorem implFits_ev (l : List CallT) (o : List Int) (ho : o.length ≤ 1048576) (hl : l.length ≤ 1048576) (hr : ∀ n ∈ o, rangeB (l.length : Int) n = true) : Ev (fun k => impl_fits k l o) (fitsFrom l (valC []) o) := by
  refine ev_congr (fun k => impl_fits_eq k l o) ?_
  have key := drop_ind o (fun n rest => ∀ m : List (ByteArray × ByteArray), Ev (fun k => impl_fits_h3 k l m o (o.length : Int) (n : Int)) (fitsFrom l (mgetT .str .str m) rest)) ?_ ?_
  · exact key 0 (Nat.zero_le _) []
  · intro m
    exact ev_last fun k => by rw [impl_fits_h3_eq, if_neg (by omega)]; rfl
  · intro n x rest hn hx _ ih m
    have q0 : (0 : Int) ≤ (n : Int) := by omega
    have q1 : (n : Int) < (o.length : Int) := by omega
    have hrx := hr x (List.mem_of_getElem? hx)
    simp only [rangeB, decide_eq_true_eq] at hrx
    refine ev_shift ?_
    simp only [impl_fits_h3_eq, rdT_get (e := .int .i64) hx, wrap_nat (show n < 9223372036854775807 by omega), ev_ite_iff, ev_none_iff, ev_some_iff]
    rw [if_pos q1, if_pos q0, if_pos q1, if_pos hrx.1, if_pos (show x < (l.length : Int) by omega)]
    simp only [fitsFrom]
    by_cases hw : (rdT CallK l x).2.1 = true
    · rw [if_pos hw, if_pos hw]
      have := ih (mputT .str .str m (rdT CallK l x).2.2.1 (rdT CallK l x).2.2.2.1)
      rw [show mgetT .str .str (mputT .str .str m (rdT CallK l x).2.2.1 (rdT CallK l x).2.2.2.1) = fun key => if (rdT CallK l x).2.2.1 = key then (rdT CallK l x).2.2.2.1 else mgetT .str .str m key from funext fun key => mgetSS_put m _ _ key] at this
      exact this
    · rw [if_neg hw, if_neg hw]
      by_cases hv : mgetT .str .str m (rdT CallK l x).2.2.1 = (rdT CallK l x).2.2.2.1
      · rw [if_neg (by simpa using hv), if_pos hv]
        exact ih m
      · rw [if_pos hv, if_neg hv]

/-! ### linear -/
/-! IsLinear, IsSequential, LinearOrder: both searches give the first full order whose every step is allowed -/
def bef (own : Bool) (a b : CallT) : Bool := decide (a.2.2.2.2.2 < b.2.2.2.2.1) && (!own || decide (a.1 = b.1))
def loopF (f : Nat → CallT → Option (List Int)) : Nat → List CallT → Option (List Int)
  | _, [] => none
  | i, x :: rest => match f i x with | some q => some q | none => loopF f (i + 1) rest
def srch (ok : List Int → Nat → CallT → Bool) (l : List CallT) : Nat → List Int → Option (List Int)
  | 0, p => some p
  | n + 1, p => loopF (fun i x => cond (ok p i x) (srch ok l n (p ++ [(i : Int)])) none) 0 l
def nextV (x : CallT) (f : ByteArray → ByteArray) : ByteArray → ByteArray := if x.2.1 = true then (fun key => if x.2.2.1 = key then x.2.2.2.1 else f key) else f
def aft (l : List CallT) : (ByteArray → ByteArray) → List Int → ByteArray → ByteArray
  | f, [] => f
  | f, n :: r => aft l (nextV (rdT CallK l n) f) r
def doneB (p : List Int) (i : Nat) : Bool := decide ((i : Int) ∈ p)
def readB (x : CallT) (f : ByteArray → ByteArray) : Bool := x.2.1 || decide (f x.2.2.1 = x.2.2.2.1)
def okS (l : List CallT) (own : Bool) (p : List Int) (i : Nat) (x : CallT) : Bool := !doneB p i && (allFrom (fun n y => doneB p n || !bef own y x) 0 l && readB x (aft l (valC []) p))
def okI (l : List CallT) (own : Bool) (p : List Int) (i : Nat) (x : CallT) : Bool := !(p.any fun o => bef own x (rdT CallK l o)) && (!doneB p i && fitsFrom l (valC []) (p ++ [(i : Int)]))
theorem aft_snoc (l : List CallT) (i : Int) : ∀ (p : List Int) (f : ByteArray → ByteArray), aft l f (p ++ [i]) = nextV (rdT CallK l i) (aft l f p)
  | [], f => rfl
  | n :: r, f => aft_snoc l i r _
theorem fits_snoc (l : List CallT) (i : Int) : ∀ (p : List Int) (f : ByteArray → ByteArray), fitsFrom l f (p ++ [i]) = (fitsFrom l f p && readB (rdT CallK l i) (aft l f p))
  | [], f => by
    simp only [List.nil_append, fitsFrom, aft, readB]
    by_cases h : (rdT CallK l i).2.1 = true
    · simp [h]
    · by_cases h2 : f (rdT CallK l i).2.2.1 = (rdT CallK l i).2.2.2.1 <;> simp [h, h2]
  | n :: r, f => by
    simp only [List.cons_append, fitsFrom, aft, nextV]
    by_cases h : (rdT CallK l n).2.1 = true
    · simp only [if_pos h]; exact fits_snoc l i r _
    · simp only [if_neg h]
      by_cases h2 : f (rdT CallK l n).2.2.1 = (rdT CallK l n).2.2.2.1
      · simp only [if_pos h2]; exact fits_snoc l i r _
      · simp only [if_neg h2, Bool.false_and]
theorem loopF_congr {f g : Nat → CallT → Option (List Int)} : ∀ (rest : List CallT) (i : Nat), (∀ j x, rest[j]? = some x → f (i + j) x = g (i + j) x) → loopF f i rest = loopF g i rest
  | [], _, _ => rfl
  | x :: rest, i, h => by
    have h0 := h 0 x rfl
    simp only [Nat.add_zero] at h0
    have ih := loopF_congr (f := f) (g := g) rest (i + 1) fun j y hy => by
      have := h (j + 1) y (by simpa using hy)
      rwa [show i + (j + 1) = i + 1 + j by omega] at this
    simp only [loopF, h0, ih]
theorem loopF_none {f : Nat → CallT → Option (List Int)} : ∀ (rest : List CallT) (i : Nat), (∀ j x, rest[j]? = some x → f (i + j) x = none) → loopF f i rest = none
  | [], _, _ => rfl
  | x :: rest, i, h => by
    have h0 := h 0 x rfl
    simp only [Nat.add_zero] at h0
    simp only [loopF, h0]
    exact loopF_none rest (i + 1) fun j y hy => by
      have := h (j + 1) y (by simpa using hy)
      rwa [show i + (j + 1) = i + 1 + j by omega] at this
theorem nodup_le : ∀ (N : Nat) (p : List Int), p.Nodup → (∀ x ∈ p, 0 ≤ x ∧ x < (N : Int)) → p.length ≤ N
  | 0, p, _, h => by
    cases p with
    | nil => simp
    | cons x p => have := h x (by simp); omega
  | N + 1, p, hn, h => by
    have key := nodup_le N (p.erase (N : Int)) (hn.erase _) fun x hx => by
      rw [hn.mem_erase_iff] at hx
      have := h x hx.2
      omega
    by_cases hm : (N : Int) ∈ p
    · have := List.length_erase_of_mem hm; omega
    · rw [List.erase_of_not_mem hm] at key; omega
def goodP (l : List CallT) (own : Bool) (p : List Int) : Prop := ∀ k y, l[k]? = some y → doneB p k = false → ∀ o ∈ p, bef own y (rdT CallK l o) = false
structure PathP (l : List CallT) (p : List Int) (n : Nat) : Prop where
  len : p.length + n = l.length
  nodup : p.Nodup
  range : ∀ o ∈ p, rangeB (l.length : Int) o = true
theorem PathP.next {l : List CallT} {p : List Int} {n i : Nat} {x : CallT} (h : PathP l p (n + 1)) (hx : l[i]? = some x) (hd : doneB p i = false) : PathP l (p ++ [(i : Int)]) n := by
  have hlt := (List.getElem?_eq_some_iff.1 hx).1
  simp only [doneB, decide_eq_false_iff_not] at hd
  refine ⟨by have := h.len; simp; omega, ?_, fun o ho => ?_⟩
  · rw [List.nodup_append]
    refine ⟨h.nodup, by simp, fun a ha b hb e => ?_⟩
    rw [List.mem_singleton] at hb
    subst hb; subst e; exact hd ha
  · rcases List.mem_append.1 ho with ho | ho
    · exact h.range o ho
    · rw [List.mem_singleton.1 ho]; simp only [rangeB, decide_eq_true_eq]; omega
/-- what must be ahead and stands behind: nothing full lies there -/
theorem bad_none (l : List CallT) (own : Bool) : ∀ (n : Nat) (p : List Int) (k : Nat) (y : CallT), PathP l p n → l[k]? = some y → doneB p k = false → (p.any fun o => bef own y (rdT CallK l o)) = true → srch (okI l own) l n p = none
  | 0, p, k, y, hp, hk, hd, hb => by
    exfalso
    have hlt := (List.getElem?_eq_some_iff.1 hk).1
    simp only [doneB, decide_eq_false_iff_not] at hd
    have := nodup_le l.length ((k : Int) :: p) (List.nodup_cons.2 ⟨hd, hp.nodup⟩) fun x hx => by
      rcases List.mem_cons.1 hx with rfl | hx
      · omega
      · have := hp.range x hx
        simp only [rangeB, decide_eq_true_eq] at this; omega
    have := hp.len
    simp at this
    simp only [List.length_cons] at *
    omega
  | n + 1, p, k, y, hp, hk, hd, hb => by
    simp only [srch]
    refine loopF_none l 0 fun j x hx => ?_
    rw [Nat.zero_add]
    cases hok : okI l own p j x with
    | false => rfl
    | true =>
      rw [cond_true]
      simp only [okI, Bool.and_eq_true, Bool.not_eq_true'] at hok
      obtain ⟨h1, h2, _⟩ := hok
      have hjk : j ≠ k := by
        rintro rfl
        rw [hx] at hk; cases hk
        rw [hb] at h1; cases h1
      refine bad_none l own n (p ++ [(j : Int)]) k y (hp.next hx h2) hk ?_ ?_
      · simp only [doneB, decide_eq_false_iff_not, List.mem_append, List.mem_singleton] at hd ⊢
        rintro (h | h)
        · exact hd h
        · exact hjk (by omega)
      · rw [List.any_append, hb]; rfl
theorem allFrom0 {α : Type} {f : Nat → α → Bool} {l : List α} : allFrom f 0 l = false → ∃ (i : Nat) (x : α), l[i]? = some x ∧ f i x = false := by
  intro h
  refine Classical.byContradiction fun hn => ?_
  have : allFrom f 0 l = true := allFrom_iff.2 fun i x hx => by
    rw [Nat.zero_add]
    cases hf : f i x with
    | true => rfl
    | false => exact absurd ⟨i, x, hx, hf⟩ hn
  rw [h] at this; cases this
theorem srch_eq (l : List CallT) (own : Bool) (hl : ∀ x ∈ l, x.2.2.2.2.1 < x.2.2.2.2.2) : ∀ (n : Nat) (p : List Int), PathP l p n → fitsFrom l (valC []) p = true → goodP l own p → srch (okS l own) l n p = srch (okI l own) l n p
  | 0, _, _, _, _ => rfl
  | n + 1, p, hp, hf, hg => by
    simp only [srch]
    refine loopF_congr l 0 fun i x hx => ?_
    rw [Nat.zero_add]
    have hxl : rdT CallK l (i : Int) = x := rdT_get (e := CallK) hx
    have hI : okI l own p i x = (!(p.any fun o => bef own x (rdT CallK l o)) && (!doneB p i && readB x (aft l (valC []) p))) := by
      simp only [okI, fits_snoc, hf, hxl, Bool.true_and]
    cases hd : doneB p i with
    | true =>
      rw [hI]; simp [okS, hd]
    | false =>
      have hlate : (p.any fun o => bef own x (rdT CallK l o)) = false := by
        rw [← Bool.not_eq_true, List.any_eq_true]
        rintro ⟨o, ho, hb⟩
        rw [hg i x hx hd o ho] at hb; cases hb
      rw [hI, hlate, hd]
      simp only [Bool.not_false, Bool.true_and]
      cases hr : readB x (aft l (valC []) p) with
      | false => simp [okS, hr]
      | true =>
        rw [cond_true]
        have hnx := hp.next hx hd
        have hirr : bef own x x = false := by
          have := hl x (List.mem_of_getElem? hx)
          simp only [bef, Bool.and_eq_false_iff, decide_eq_false_iff_not]
          exact .inl (by omega)
        cases ha : allFrom (fun n y => doneB p n || !bef own y x) 0 l with
        | true =>
          have : okS l own p i x = true := by simp [okS, hd, ha, hr]
          rw [this, cond_true]
          refine srch_eq l own hl n (p ++ [(i : Int)]) hnx (by rw [fits_snoc, hf, hxl, hr]; rfl) fun k y hk hdk o ho => ?_
          have hdk' : doneB p k = false := by
            simp only [doneB, decide_eq_false_iff_not, List.mem_append, not_or] at hdk ⊢
            exact hdk.1
          rcases List.mem_append.1 ho with ho | ho
          · exact hg k y hk hdk' o ho
          · rw [List.mem_singleton.1 ho, hxl]
            have := allFrom_iff.1 ha k y hk
            rw [Nat.zero_add, hdk', Bool.false_or, Bool.not_eq_true'] at this
            exact this
        | false =>
          have : okS l own p i x = false := by simp [okS, ha]
          rw [this, cond_false]
          obtain ⟨k, y, hk, hky⟩ := allFrom0 ha
          simp only [Bool.or_eq_false_iff, Bool.not_eq_false'] at hky
          refine (bad_none l own n (p ++ [(i : Int)]) k y hnx hk ?_ ?_).symm
          · have hki : k ≠ i := by
              rintro rfl
              rw [hx] at hk; cases hk
              rw [hirr] at hky; cases hky.2
            have := hky.1
            simp only [doneB, decide_eq_false_iff_not, List.mem_append, List.mem_singleton] at this ⊢
            rintro (h | h)
            · exact this h
            · exact hki (by omega)
          · rw [List.any_append]
            simp [hxl, hky.2]
/-! two fuels -/
def Ev2 {α : Type} (g : Nat → Nat → Option α) (v : α) : Prop := ∃ N, ∀ k, N ≤ k → ∀ j, N ≤ j → g k j = some v
theorem Ev2.diag {α : Type} {g : Nat → Nat → Option α} {v : α} (h : Ev2 g v) : Ev (fun k => g k k) v := by
  obtain ⟨N, h⟩ := h
  exact ⟨N, fun k hk => h k hk k hk⟩
theorem ev2_shift {α : Type} {g : Nat → Nat → Option α} {v : α} (h : Ev2 (fun k j => g k (j + 1)) v) : Ev2 g v := by
  obtain ⟨N, h⟩ := h
  refine ⟨N + 1, fun k hk j hj => ?_⟩
  obtain ⟨j, rfl⟩ : ∃ i, j = i + 1 := ⟨j - 1, by omega⟩
  exact h k (by omega) j (by omega)
theorem ev2_some {α : Type} (v : α) : Ev2 (fun _ _ => some v) v := ⟨0, fun _ _ _ _ => rfl⟩
theorem ev2_if_pos {α : Type} {c : Prop} [Decidable c] {g f : Nat → Nat → Option α} {r : α} (hc : c) (h : Ev2 g r) : Ev2 (fun k j => if c then g k j else f k j) r := by simpa [hc] using h
theorem ev2_if_neg {α : Type} {c : Prop} [Decidable c] {g f : Nat → Nat → Option α} {r : α} (hc : ¬ c) (h : Ev2 f r) : Ev2 (fun k j => if c then g k j else f k j) r := by simpa [hc] using h
theorem ev2_bind {α β : Type} {g : Nat → Option α} {f : Nat → Nat → α → Option β} {a : α} {r : β} (h : Ev g a) (h' : Ev2 (fun k j => f k j a) r) : Ev2 (fun k j => (g k).bind (f k j)) r := by
  obtain ⟨N, h⟩ := h
  obtain ⟨M, h'⟩ := h'
  refine ⟨max N M, fun k hk j hj => ?_⟩
  show (g k).bind (f k j) = some r
  rw [h k (by omega)]
  exact h' k (by omega) j (by omega)
theorem ev2_congr {α : Type} {g f : Nat → Nat → Option α} {v : α} (h : ∀ k j, g k j = f k j) (hf : Ev2 f v) : Ev2 g v := by
  obtain ⟨N, hf⟩ := hf
  exact ⟨N, fun k hk j hj => (h k j).trans (hf k hk j hj)⟩

/-! ### linear2 -/
/-! IsLinear: what the searches give -/
def usedOf (l : List CallT) (p : List Int) : List Bool := (List.range l.length).map (doneB p)
theorem usedOf_len (l : List CallT) (p : List Int) : (usedOf l p).length = l.length := by simp [usedOf]
theorem usedOf_get {l : List CallT} {p : List Int} {n : Nat} (h : n < l.length) : (usedOf l p)[n]? = some (doneB p n) := by simp [usedOf, h]
theorem usedOf_rd {l : List CallT} {p : List Int} {n : Nat} (h : n < l.length) : rdT .bool (usedOf l p) (n : Int) = doneB p n := rdT_get (e := .bool) (usedOf_get h)
theorem doneB_snoc (p : List Int) (i n : Nat) : doneB (p ++ [(i : Int)]) n = (doneB p n || decide (n = i)) := by
  have hc : ((n : Int) ∈ p ++ [(i : Int)]) ↔ ((n : Int) ∈ p ∨ n = i) := by
    rw [List.mem_append, List.mem_singleton]
    exact ⟨fun h => h.imp id fun h => by omega, fun h => h.imp id fun h => by omega⟩
  simp only [doneB, hc]
  by_cases h1 : (n : Int) ∈ p <;> by_cases h2 : n = i <;> simp [h1, h2]
theorem usedOf_set (l : List CallT) (p : List Int) (i : Nat) : (usedOf l p).set i true = usedOf l (p ++ [(i : Int)]) := by
  apply List.ext_getElem?
  intro n
  by_cases hn : n < l.length
  · rw [usedOf_get hn, doneB_snoc]
    by_cases h : n = i
    · subst h
      rw [List.getElem?_set_self (by rw [usedOf_len]; exact hn)]; simp
    · rw [List.getElem?_set_ne (fun e => h e.symm), usedOf_get hn]; simp [h]
  · rw [List.getElem?_eq_none (by rw [List.length_set, usedOf_len]; omega), List.getElem?_eq_none (by rw [usedOf_len]; omega)]
theorem usedOf_back (l : List CallT) (p : List Int) (i : Nat) (h : doneB p i = false) : (usedOf l (p ++ [(i : Int)])).set i false = usedOf l p := by
  apply List.ext_getElem?
  intro n
  by_cases hn : n < l.length
  · rw [usedOf_get hn]
    by_cases h1 : n = i
    · subst h1
      rw [List.getElem?_set_self (by rw [usedOf_len]; exact hn), h]
    · rw [List.getElem?_set_ne (fun e => h1 e.symm), usedOf_get hn, doneB_snoc]; simp [h1]
  · rw [List.getElem?_eq_none (by rw [List.length_set, usedOf_len]; omega), List.getElem?_eq_none (by rw [usedOf_len]; omega)]
theorem usedOf_nil (l : List CallT) : List.replicate (Int.toNat (l.length : Int)) false = usedOf l [] := by
  apply List.ext_getElem?
  intro n
  by_cases hn : n < l.length
  · rw [usedOf_get hn]; simp [doneB, hn]
  · rw [List.getElem?_eq_none (by simp; omega), List.getElem?_eq_none (by rw [usedOf_len]; omega)]
theorem may_ev (l : List CallT) (own : Bool) (p : List Int) (c : List CellT) (i : Nat) (x : CallT) (hl : l.length ≤ 7) (hx : l[i]? = some x) (hc : c.length ≤ 1048576) (hv : valC c = aft l (valC []) p) :
    Ev (fun k => spec_l7S_may k (l, own, usedOf l p, p, c) (i : Int)) (allFrom (fun n y => doneB p n || !bef own y x) 0 l && readB x (aft l (valC []) p)) := by
  have hi := (List.getElem?_eq_some_iff.1 hx).1
  have i0 : (0 : Int) ≤ (i : Int) := by omega
  have i1 : (i : Int) < (l.length : Int) := by omega
  refine ev_congr (fun k => spec_l7S_may_eq k _ _) ?_
  refine all_loop l (fun k j => spec_l7S_may_h2 k (l, own, usedOf l p, p, c) (i : Int) l (l.length : Int) j) _ _ ?_ ?_
  · refine ev_shift ?_
    simp only [spec_l7S_may_h2_eq, rdT_get (e := CallK) hx, ev_bind_iff (l3Value_ev c _ hc), ev_ite_iff, ev_none_iff, ev_some_iff]
    rw [if_neg (by omega), if_pos i0, if_pos i1]
    unfold readB
    by_cases hw : x.2.1 = true
    · rw [if_pos hw]; simp [hw]
    · rw [if_neg hw, if_pos i0, if_pos i1, if_pos i0, if_pos i1, hv]; simp [hw]
  · intro n y v hn hy H
    have q0 : (0 : Int) ≤ (n : Int) := by omega
    have q1 : (n : Int) < (l.length : Int) := by omega
    have q2 : (n : Int) < ((usedOf l p).length : Int) := by rw [usedOf_len]; exact q1
    simp only [spec_l7S_may_h2_eq, rdT_get (e := CallK) hx, rdT_get (e := CallK) hy, usedOf_rd hn, wrap_nat (show n < 9223372036854775807 by omega), ev_ite_iff, ev_none_iff, ev_some_iff]
    rw [if_pos q1, if_pos q0, if_pos q1, if_pos q0, if_pos q2]
    cases hd : doneB p n with
    | true =>
      rw [if_neg (by simp)]
      simpa using H
    | false =>
      rw [if_pos (by simp), if_pos i0, if_pos i1]
      simp only [bef, Bool.false_or]
      by_cases h1 : y.2.2.2.2.2 < x.2.2.2.2.1
      · rw [if_pos h1]
        cases own with
        | false => rw [if_pos (by simp)]; simp [h1]
        | true =>
          rw [if_neg (by simp), if_pos i0, if_pos i1]
          by_cases h2 : y.1 = x.1
          · rw [if_pos h2]; simp [h1, h2]
          · rw [if_neg h2]; simpa [h1, h2] using H
      · rw [if_neg h1]; simpa [h1] using H
abbrev SrT := Bool × List CallT × Bool × List Bool × List Int × List CellT
def Res (s : Option (List Int)) (l : List CallT) (own : Bool) (p : List Int) (c : List CellT) (r : SrT) : Prop := match s with
  | some q => r.1 = true ∧ r.2.2.2.2.1 = q
  | none => r = (false, l, own, usedOf l p, p, c)
theorem search_ev (l : List CallT) (own : Bool) (hl : l.length ≤ 7) : ∀ (n : Nat) (p : List Int) (c : List CellT), p.length + n = l.length → c.length ≤ p.length → valC c = aft l (valC []) p →
    ∃ r : SrT, Ev (fun k => spec_l7S_search k l own (usedOf l p) p c) r ∧ Res (srch (okS l own) l n p) l own p c r
  | 0, p, c, hp, hc, hv => by
    refine ⟨(true, l, own, usedOf l p, p, c), ev_last fun k => ?_, rfl, rfl⟩
    rw [spec_l7S_search_eq, if_pos (by omega)]
  | n + 1, p, c, hp, hc, hv => by
    have key := drop_ind0 l (fun i rest => ∃ r : SrT, Ev2 (fun k j => spec_l7S_search_h4 k j (usedOf l p) p (l, own, c, ()) l (l.length : Int) (i : Int)) r ∧ Res (loopF (fun i x => cond (okS l own p i x) (srch (okS l own) l n (p ++ [(i : Int)])) none) i rest) l own p c r) ?_ ?_
    · obtain ⟨r, h1, h2⟩ := key
      refine ⟨r, ev_shift ?_, h2⟩
      simp only [spec_l7S_search_eq]
      exact ev_if_neg (by omega) h1.diag
    · refine ⟨(false, l, own, usedOf l p, p, c), ev2_shift (ev2_congr (fun k j => spec_l7S_search_h4_eq k j _ _ _ _ _ _) ?_), rfl⟩
      exact ev2_if_neg (by omega) (ev2_some _)
    · intro i x rest hi hx _ ih
      obtain ⟨r, hr, hres⟩ := ih
      have q0 : (0 : Int) ≤ (i : Int) := by omega
      have q1 : (i : Int) < (l.length : Int) := by omega
      have q2 : (i : Int) < ((usedOf l p).length : Int) := by rw [usedOf_len]; exact q1
      have hrd := usedOf_rd (l := l) (p := p) hi
      have hxl : rdT CallK l (i : Int) = x := rdT_get (e := CallK) hx
      have hwn : wrap64 ((i : Int) + 1) = ((i + 1 : Nat) : Int) := wrap_nat (by omega)
      -- on to the next
      have step : ∀ r' : SrT, Ev2 (fun k j => (if rdT .bool (usedOf l p) (i : Int) = true then spec_l7S_search_h4 k j (usedOf l p) p (l, own, c, ()) l (l.length : Int) (wrap64 ((i : Int) + 1))
          else Option.bind (spec_l7S_may k (l, own, usedOf l p, p, c) (i : Int)) fun t0 => if (!t0) = true then spec_l7S_search_h4 k j (usedOf l p) p (l, own, c, ()) l (l.length : Int) (wrap64 ((i : Int) + 1))
            else if (rdT CallK l (i : Int)).2.1 = true then Option.bind (spec_l3Cells k c ((rdT CallK l (i : Int)).2.2.1, (rdT CallK l (i : Int)).2.2.2.1)) fun t1 => spec_l7S_search_h10 k j (usedOf l p) p (l, own, t1, ()) (i : Int) c l (l.length : Int) (i : Int)
              else spec_l7S_search_h10 k j (usedOf l p) p (l, own, c, ()) (i : Int) c l (l.length : Int) (i : Int))) r' → Ev2 (fun k j => spec_l7S_search_h4 k j (usedOf l p) p (l, own, c, ()) l (l.length : Int) (i : Int)) r' := by
        intro r' h
        refine ev2_shift (ev2_congr (fun k j => spec_l7S_search_h4_eq k j _ _ _ _ _ _) ?_)
        exact ev2_if_pos q1 (ev2_if_pos q0 (ev2_if_pos q1 (ev2_if_pos q0 (ev2_if_pos q2 h))))
      have nxt : Ev2 (fun k j => spec_l7S_search_h4 k j (usedOf l p) p (l, own, c, ()) l (l.length : Int) (wrap64 ((i : Int) + 1))) r := by rw [hwn]; exact hr
      have hmay := may_ev l own p c i x hl hx (by omega) hv
      cases hd : doneB p i with
      | true =>
        refine ⟨r, step r (ev2_if_pos (by rw [hrd, hd]) nxt), ?_⟩
        have : okS l own p i x = false := by simp [okS, hd]
        simp only [loopF, this, cond_false]
        exact hres
      | false =>
        cases hm : (allFrom (fun n y => doneB p n || !bef own y x) 0 l && readB x (aft l (valC []) p)) with
        | false =>
          rw [hm] at hmay
          refine ⟨r, step r (ev2_if_neg (by rw [hrd, hd]; simp) (ev2_bind hmay (ev2_if_pos (by simp) nxt))), ?_⟩
          have : okS l own p i x = false := by simp only [okS, hd, hm, Bool.not_false, Bool.true_and]
          simp only [loopF, this, cond_false]
          exact hres
        | true =>
          rw [hm] at hmay
          have hok : okS l own p i x = true := by simp only [okS, hd, hm, Bool.not_false, Bool.true_and]
          -- the cells behind
          obtain ⟨c', hc', hv', hstep⟩ : ∃ c' : List CellT, c'.length ≤ p.length + 1 ∧ valC c' = aft l (valC []) (p ++ [(i : Int)]) ∧ ∀ r' : SrT, Ev2 (fun k j => spec_l7S_search_h10 k j (usedOf l p) p (l, own, c', ()) (i : Int) c l (l.length : Int) (i : Int)) r' →
              Ev2 (fun k j => if (rdT CallK l (i : Int)).2.1 = true then Option.bind (spec_l3Cells k c ((rdT CallK l (i : Int)).2.2.1, (rdT CallK l (i : Int)).2.2.2.1)) fun t1 => spec_l7S_search_h10 k j (usedOf l p) p (l, own, t1, ()) (i : Int) c l (l.length : Int) (i : Int)
              else spec_l7S_search_h10 k j (usedOf l p) p (l, own, c, ()) (i : Int) c l (l.length : Int) (i : Int)) r' := by
            rw [hxl, aft_snoc, hxl]
            by_cases hw : x.2.1 = true
            · refine ⟨putC c (x.2.2.1, x.2.2.2.1), by have := putC_len c (x.2.2.1, x.2.2.2.1); omega, ?_, fun r' h => ev2_if_pos hw (ev2_bind (l3Cells_ev c _ (by omega)) h)⟩
              funext key
              rw [valC_put, nextV, if_pos hw, hv]
            · refine ⟨c, by omega, ?_, fun r' h => ev2_if_neg hw h⟩
              rw [nextV, if_neg hw, hv]
          obtain ⟨r1, e1, e2⟩ := search_ev l own hl n (p ++ [(i : Int)]) c' (by simp; omega) (by simp; omega) hv'
          have into : ∀ r' : SrT, Ev2 (fun k j => spec_l7S_search_h10 k j (usedOf l p) p (l, own, c', ()) (i : Int) c l (l.length : Int) (i : Int)) r' → Ev2 (fun k j => spec_l7S_search_h4 k j (usedOf l p) p (l, own, c, ()) l (l.length : Int) (i : Int)) r' := fun r' h =>
            step r' (ev2_if_neg (by rw [hrd, hd]; simp) (ev2_bind hmay (ev2_if_neg (by simp) (hstep r' h))))
          have e1' : Ev (fun k => spec_l7S_search k l own (List.set (usedOf l p) (Int.toNat (i : Int)) true) (p ++ [(i : Int)]) c') r1 := by
            rw [Int.toNat_natCast, usedOf_set]; exact e1
          cases hs : srch (okS l own) l n (p ++ [(i : Int)]) with
          | some q =>
            rw [hs] at e2
            obtain ⟨f1, f2⟩ := e2
            refine ⟨(true, r1.2), into _ (ev2_shift (ev2_congr (fun k j => spec_l7S_search_h10_eq k j _ _ _ _ _ _ _ _) ?_)), ?_⟩
            · refine ev2_if_pos q0 (ev2_if_pos q2 (ev2_if_pos (by simp; omega) (ev2_bind e1' (ev2_if_pos f1 ?_))))
              exact ev2_some _
            · simp only [loopF, hok, cond_true, hs]
              exact ⟨rfl, f2⟩
          | none =>
            rw [hs] at e2
            have e2' : r1 = (false, l, own, usedOf l (p ++ [(i : Int)]), p ++ [(i : Int)], c') := e2
            subst e2'
            have hlen : wrap64 (((p ++ [(i : Int)]).length : Int) - 1) = (p.length : Int) := by
              rw [wrap_pred (by simp; omega)]; simp
            refine ⟨r, into _ (ev2_shift (ev2_congr (fun k j => spec_l7S_search_h10_eq k j _ _ _ _ _ _ _ _) ?_)), ?_⟩
            · refine ev2_if_pos q0 (ev2_if_pos q2 (ev2_if_pos (by simp; omega) (ev2_bind e1' (ev2_if_neg (by simp) ?_))))
              refine ev2_if_pos (by rw [hlen]; omega) (ev2_if_pos (by rw [hlen]; simp; omega) (ev2_if_pos q0 (ev2_if_pos (by rw [usedOf_len]; exact q1) ?_)))
              simp only [hlen, Int.toNat_natCast, List.take_left, usedOf_back l p i hd]
              exact nxt
            · simp only [loopF, hok, cond_true, hs]
              exact hres

/-! ### linear3 -/
/-! IsLinear: what the program's search gives -/
theorem late1_ev (l : List CallT) (own : Bool) (x : CallT) (o : Int) (ho : rangeB (l.length : Int) o = true) : Ev (fun k => impl_callOrder_1_1 k o x l (!own)) (bef own x (rdT CallK l o)) := by
  simp only [rangeB, decide_eq_true_eq] at ho
  refine ev_congr (fun k => impl_callOrder_1_1_eq k o x l (!own)) ?_
  refine ev_if_pos ho.1 (ev_if_pos (by omega) ?_)
  unfold bef
  by_cases h1 : x.2.2.2.2.2 < (rdT CallK l o).2.2.2.2.1
  · refine ev_if_pos h1 ?_
    cases own with
    | false => exact ev_if_pos (by simp) (by simpa [h1] using ev_some true)
    | true => exact ev_if_neg (by simp) (ev_if_pos ho.1 (ev_if_pos (by omega) (by simpa [h1] using ev_some _)))
  · exact ev_if_neg h1 (by simpa [h1] using ev_some false)
theorem late_ev (l : List CallT) (own : Bool) (x : CallT) (p : List Int) (hp : p.length ≤ 7) (hr : ∀ o ∈ p, rangeB (l.length : Int) o = true) : Ev (fun k => slices_ContainsFunc k p (x, l, !own, ())) (p.any fun o => bef own x (rdT CallK l o)) := by
  have key := drop_ind0 p (fun n rest => Ev (fun k => slices_IndexFunc_h2 k p (x, l, !own, ()) (p.length : Int) (n : Int)) (idxFrom (fun o => bef own x (rdT CallK l o)) n rest)) ?_ ?_
  · refine ev_congr (fun k => slices_ContainsFunc_eq k p _) ?_
    simp only [ev_bind_iff (ev_congr (fun k => slices_IndexFunc_eq k p (x, l, !own, ())) key), ev_some_iff, idx_nonneg]
  · exact ev_last fun k => by rw [slices_IndexFunc_h2_eq, if_neg (by omega)]; rfl
  · intro n o rest hn ho _ ih
    have q0 : (0 : Int) ≤ (n : Int) := by omega
    have q1 : (n : Int) < (p.length : Int) := by omega
    refine ev_shift ?_
    simp only [slices_IndexFunc_h2_eq, rdT_get (e := .int .i64) ho, ev_bind_iff (late1_ev l own x o (hr o (List.mem_of_getElem? ho))), wrap_nat (show n < 9223372036854775807 by omega), ev_ite_iff, ev_none_iff, ev_some_iff, idxFrom]
    rw [if_pos q1, if_pos q0, if_pos q1]
    by_cases h1 : bef own x (rdT CallK l o) = true
    · rw [if_pos h1, if_pos h1]
    · rw [if_neg h1, if_neg h1]; exact ih
theorem hasI_ev (p : List Int) (i : Nat) (hp : p.length ≤ 7) : Ev (fun k => slices_Contains k p (i : Int)) (doneB p i) := by
  have key := drop_ind0 p (fun n rest => Ev (fun k => slices_Index_h2 k p (i : Int) (p.length : Int) (n : Int)) (idxFrom (fun o => decide ((i : Int) = o)) n rest)) ?_ ?_
  · refine ev_congr (fun k => slices_Contains_eq k p _) ?_
    simp only [ev_bind_iff (ev_congr (fun k => slices_Index_eq k p (i : Int)) key), ev_some_iff, idx_nonneg]
    unfold doneB
    rw [Bool.eq_iff_iff]
    simp only [List.any_eq_true, decide_eq_true_eq]
    exact ⟨fun ⟨o, ho, h⟩ => h ▸ ho, fun h => ⟨_, h, rfl⟩⟩
  · exact ev_last fun k => by rw [slices_Index_h2_eq, if_neg (by omega)]; rfl
  · intro n o rest hn ho _ ih
    have q0 : (0 : Int) ≤ (n : Int) := by omega
    have q1 : (n : Int) < (p.length : Int) := by omega
    refine ev_shift ?_
    simp only [slices_Index_h2_eq, rdT_get (e := .int .i64) ho, wrap_nat (show n < 9223372036854775807 by omega), ev_ite_iff, ev_none_iff, ev_some_iff, idxFrom]
    rw [if_pos q1, if_pos q0, if_pos q1]
    by_cases h1 : (i : Int) = o
    · rw [if_pos h1, if_pos (by simpa using h1)]
    · rw [if_neg h1, if_neg (by simpa using h1)]; exact ih
def out2 (s : Option (List Int)) : List Int × Bool := match s with | some q => (q, true) | none => ([], false)
theorem order_ev (l : List CallT) (own : Bool) (hl : l.length ≤ 7) : ∀ (n : Nat) (p : List Int), PathP l p n →
    Ev (fun k => impl_callOrder_1 k p l (!own) (l, !own, ())) (out2 (srch (okI l own) l n p))
  | 0, p, hp => by
    have := hp.len
    refine ev_last fun k => ?_
    rw [impl_callOrder_1_eq, if_pos (by omega)]; rfl
  | n + 1, p, hp => by
    have hlen := hp.len
    have key := drop_ind0 l (fun i rest => Ev2 (fun k j => impl_callOrder_1_h4 k j p l (!own) (l, !own, ()) l (l.length : Int) (i : Int)) (out2 (loopF (fun i x => cond (okI l own p i x) (srch (okI l own) l n (p ++ [(i : Int)])) none) i rest))) ?_ ?_
    · refine ev_shift ?_
      simp only [impl_callOrder_1_eq]
      exact ev_if_neg (by omega) key.diag
    · refine ev2_shift (ev2_congr (fun k j => impl_callOrder_1_h4_eq k j _ _ _ _ _ _ _) ?_)
      exact ev2_if_neg (by omega) (ev2_some _)
    · intro i x rest hi hx _ ih
      have q0 : (0 : Int) ≤ (i : Int) := by omega
      have q1 : (i : Int) < (l.length : Int) := by omega
      have hxl : rdT CallK l (i : Int) = x := rdT_get (e := CallK) hx
      have hwn : wrap64 ((i : Int) + 1) = ((i + 1 : Nat) : Int) := wrap_nat (by omega)
      have hlate := late_ev l own x p (by omega) hp.range
      rw [← hwn] at ih
      refine ev2_shift (ev2_congr (fun k j => impl_callOrder_1_h4_eq k j _ _ _ _ _ _ _) ?_)
      refine ev2_if_pos q1 (ev2_if_pos q0 (ev2_if_pos q1 ?_))
      rw [hxl]
      refine ev2_bind hlate (ev2_if_pos (by omega) (ev2_if_pos (by simp; omega) ?_))
      cases h1 : (p.any fun o => bef own x (rdT CallK l o)) with
      | true =>
        have hok : okI l own p i x = false := by simp [okI, h1]
        simp only [loopF, hok, cond_false]
        exact ev2_if_pos (by simp) ih
      | false =>
        refine ev2_if_neg (by simp) (ev2_bind (hasI_ev p i (by omega)) ?_)
        cases h2 : doneB p i with
        | true =>
          have hok : okI l own p i x = false := by simp [okI, h2]
          simp only [loopF, hok, cond_false]
          exact ev2_if_pos (by simp) ih
        | false =>
          have hnx := hp.next hx h2
          refine ev2_if_neg (by simp) (ev2_bind (a := fitsFrom l (valC []) (p ++ [(i : Int)])) ?_ ?_)
          · exact implFits_ev l (p ++ [(i : Int)]) (by simp; omega) (by omega) hnx.range
          · cases h3 : fitsFrom l (valC []) (p ++ [(i : Int)]) with
            | false =>
              have hok : okI l own p i x = false := by simp [okI, h3]
              simp only [loopF, hok, cond_false]
              exact ev2_if_pos (by simp) ih
            | true =>
              have hok : okI l own p i x = true := by simp [okI, h1, h2, h3]
              have hrec := order_ev l own hl n (p ++ [(i : Int)]) hnx
              simp only [loopF, hok, cond_true]
              refine ev2_if_neg (by simp) (ev2_bind hrec ?_)
              cases hs : srch (okI l own) l n (p ++ [(i : Int)]) with
              | some q => exact ev2_if_pos (by simp [out2]) (ev2_some _)
              | none => exact ev2_if_neg (by simp [out2]) ih
theorem callsFrom_lt : ∀ {l p : List CallT}, callsFrom p l = true → ∀ x ∈ l, x.2.2.2.2.1 < x.2.2.2.2.2
  | [], _, _, x, hx => by cases hx
  | c :: r, p, h, x, hx => by
    simp only [callsFrom, Bool.and_eq_true] at h
    rcases List.mem_cons.1 hx with rfl | hx
    · have := h.1
      simp only [baseOk, Bool.and_eq_true, Bool.not_eq_true', decide_eq_false_iff_not] at this
      omega
    · exact callsFrom_lt h.2.2 x hx
theorem calls_lt {l : List CallT} (h : callsB l = true) : ∀ x ∈ l, x.2.2.2.2.1 < x.2.2.2.2.2 := by
  unfold callsB at h
  simp only [Bool.and_eq_true] at h
  exact callsFrom_lt h.1
def ordO (l : List CallT) (own : Bool) : Option (List Int) := srch (okI l own) l l.length []
theorem specSearch_ev (l : List CallT) (own : Bool) (h : callsB l = true) : ∃ r : List Int × Bool, Ev (fun k => spec_l7Search k l own) r ∧ (match ordO l own with | some q => r = (q, true) | none => r.2 = false) := by
  have hl := calls_len h
  obtain ⟨r, h1, h2⟩ := search_ev l own hl l.length [] [] (by simp) (Nat.le_refl _) (by rfl)
  rw [srch_eq l own (calls_lt h) l.length [] ⟨by simp, List.nodup_nil, by simp⟩ rfl (fun k y _ _ o ho => by cases ho)] at h2
  refine ⟨(r.2.2.2.2.1, r.1), ev_congr (fun k => spec_l7Search_eq k l own) (ev_if_pos rfl (ev_if_pos (by omega) (ev_bind (a := r) ?_ (ev_some _)))), ?_⟩
  · rw [usedOf_nil]; exact h1
  · unfold ordO
    revert h2
    cases srch (okI l own) l l.length [] with
    | some q => rintro ⟨h2, h3⟩; simp [h2, h3]
    | none => intro h2; have h2' : r = _ := h2; rw [h2']
theorem implOrder_ev (l : List CallT) (own : Bool) (h : callsB l = true) : Ev (fun k => impl_callOrder k l (!own)) (out2 (ordO l own)) := by
  have hl := calls_len h
  refine ev_congr (fun k => impl_callOrder_eq k l (!own)) (ev_bind (order_ev l own hl l.length [] ⟨by simp, List.nodup_nil, by simp⟩) (ev_some _))

/-! ### mtext -/
theorem mt_ex : ∀ (n : Nat) (acc : ByteArray), acc.size + n ≤ 1099511627776 → ∃ r, Ev (fun k => laws_markText_h4 k (n : Int) acc) r := by
  intro n
  induction n using Nat.strongRecOn with
  | ind n ih =>
    intro acc ha
    by_cases h0 : n = 0
    · subst h0
      refine ⟨catS (ByteArray.mk (Array.mk (List.cons 109 []))) acc, ev_last fun k => ?_⟩
      rw [laws_markText_h4_eq, if_neg (by omega), if_pos (by have : (ByteArray.mk (Array.mk (List.cons 109 []))).size = 1 := rfl; omega)]
    · have hd : Int.tdiv (n : Int) 10 = ((n / 10 : Nat) : Int) := by rw [Int.tdiv_eq_ediv_of_nonneg (by omega)]; omega
      obtain ⟨r, hr⟩ := ih (n / 10) (by omega) (catS (bytesOf [IntKind.wrap .u8 (wrap64 (48 + Int.tmod (n : Int) 10))]) acc) (by
        rw [catS_size0]
        have : (bytesOf [IntKind.wrap .u8 (wrap64 (48 + Int.tmod (n : Int) 10))]).size = 1 := rfl
        omega)
      refine ⟨r, ev_shift ?_⟩
      simp only [laws_markText_h4_eq, ev_ite_iff, hd, wrap_i64 (x := ((n / 10 : Nat) : Int)) (by omega) (by omega)]
      have : (bytesOf [IntKind.wrap .u8 (wrap64 (48 + Int.tmod (n : Int) 10))]).size = 1 := rfl
      rw [if_pos (by omega), if_pos (by omega)]
      exact hr
theorem mark_ex (n : Int) (hn : n ≤ 1073741824) : ∃ r, Ev (fun k => laws_markText k n) r := by
  by_cases h : n ≤ 0
  · exact ⟨_, ev_congr (fun k => laws_markText_eq k n) (ev_if_pos h (ev_some _))⟩
  · obtain ⟨r, hr⟩ := mt_ex n.toNat (ByteArray.mk (Array.mk [])) (by have : (ByteArray.mk (Array.mk [])).size = 0 := rfl; omega)
    refine ⟨r, ev_congr (fun k => laws_markText_eq k n) (ev_if_neg h ?_)⟩
    rw [show ((n.toNat : Nat) : Int) = n by omega] at hr
    exact hr
open Classical in
noncomputable def mtx (n : Int) : ByteArray := if h : ∃ r, Ev (fun k => laws_markText k n) r then Classical.choose h else ByteArray.mk (Array.mk [])
theorem mtx_ev (n : Int) (hn : n ≤ 1073741824) : Ev (fun k => laws_markText k n) (mtx n) := by
  have h := mark_ex n hn
  unfold mtx
  rw [dif_pos h]
  exact Classical.choose_spec h

/-! ### markcall0 -/
noncomputable def emCall (m : Int) : CallT := (m, decide (Int.tmod (m + 1) 3 = 0), mtx (m + 2), mtx (m + 3), m + 4, m + 5)
theorem upCall {xs : List CallT} {n : Nat} {x : CallT} (hx : xs[n]? = some x) (v0 : Int) (v1 : Bool) (v2 v3 : ByteArray) (v4 v5 : Int) :
    upAt CallK [5] (.int .i64) v5 (upAt CallK [4] (.int .i64) v4 (upAt CallK [3] .str v3 (upAt CallK [2] .str v2 (upAt CallK [1] .bool v1 (upAt CallK [0] (.int .i64) v0 xs (n : Int)) (n : Int)) (n : Int)) (n : Int)) (n : Int)) (n : Int)
      = xs.set n (v0, v1, v2, v3, v4, v5) := by
  have hn : n < xs.length := (List.getElem?_eq_some_iff.1 hx).1
  rw [upAt_get (e := CallK) (k := .int .i64) (w := (v0, x.2)) hx rfl, upAt_set (e := CallK) (k := .bool) (w := (v0, v1, x.2.2)) hn rfl, upAt_set (e := CallK) (k := .str) (w := (v0, v1, v2, x.2.2.2)) hn rfl, upAt_set (e := CallK) (k := .str) (w := (v0, v1, v2, v3, x.2.2.2.2)) hn rfl, upAt_set (e := CallK) (k := .int .i64) (w := (v0, v1, v2, v3, v4, x.2.2.2.2.2)) hn rfl, upAt_set (e := CallK) (k := .int .i64) (w := (v0, v1, v2, v3, v4, v5)) hn rfl]
theorem upLenCall (p : List Nat) (k : Kind) (y : k.T) (l : List CallT) (i : Int) : @List.length CallT (upAt CallK p k y l i) = @List.length CallT l := upAt_len (e := CallK)
theorem incs6 (c : Int) (h0 : 0 ≤ c) (h1 : c ≤ 1073741824) : wrap64 (c + 1) = c + 1 ∧ wrap64 (c + 1 + 1) = c + 2 ∧ wrap64 (c + 2 + 1) = c + 3 ∧ wrap64 (c + 3 + 1) = c + 4 ∧ wrap64 (c + 4 + 1) = c + 5 ∧ wrap64 (c + 5 + 1) = c + 6 := by
  refine ⟨?_, ?_, ?_, ?_, ?_, ?_⟩ <;> (rw [wrap_of (by omega) (by omega)]; try omega)
theorem markCallS_ev (l : List CallT) (m : Int) (h0 : 0 ≤ m) (hm : m + 6 * l.length ≤ 1073741824) : Ev (fun k => laws_markCallS k l m) (mkList emCall m 6 l.length, m + 6 * (l.length : Int)) := by
  refine ev_congr (fun k => laws_markCallS_eq k l m) ?_
  refine mark_loop (fun k l c i => laws_markCallS_h2 k l c i) emCall m 6 l.length (fun k xs c hx => ?_) (fun n xs r hn hx H => ?_) l rfl
  · rw [laws_markCallS_h2_eq, if_neg (by omega)]
  · obtain ⟨e1, e2, e3, e4, e5, e6⟩ := incs6 (m + 6 * (n : Int)) (by omega) (by omega)
    have hnx : n < xs.length := by omega
    have hg : xs[n]? = some xs[n] := List.getElem?_eq_getElem hnx
    generalize xs[n] = x at hg
    have d1 : (n : Int) < (l.length : Int) := by omega
    have d2 : (n : Int) < (xs.length : Int) := by omega
    have d3 : (0 : Int) ≤ (n : Int) := by omega
    have e10 : m + 6 * (n : Int) + 6 = m + 6 * ((n + 1 : Nat) : Int) := by omega
    refine ev_shift ?_
    simp only [laws_markCallS_h2_eq, ev_ite_iff, e1, e2, e3, e4, e5, e6, wrap_nat (show n < 9223372036854775807 by omega), upLenCall, if_pos d2, if_pos d3, ev_bind_iff (mtx_ev (m + 6 * (n : Int) + 2) (by omega)), ev_bind_iff (mtx_ev (m + 6 * (n : Int) + 3) (by omega)), upCall hg, e10]
    exact H

/-! ### int -/
theorem eqIntS_ev (l) (hl : l.length ≤ 140737488355328) : Ev (fun k => laws_eqIntS k l l) true := by
  refine ev_congr (fun k => laws_eqIntS_eq k l l) ?_
  simp only [ev_ite_iff]
  rw [if_neg (by simp)]
  exact eq_row0 (e := .int .i64) (l := l) (c := fun x y => x = y) (fun k a b i => laws_eqIntS_h4_eq k a b i) (fun x => rfl) (by omega)

/-! ### markint -/
theorem markIntS_ev (l : List Int) (m : Int) (h0 : 0 ≤ m) (hm : m + l.length ≤ 1073741824) : Ev (fun k => laws_markIntS k l m) (mkList (fun k => k) m 1 l.length, m + 1 * (l.length : Int)) := by
  refine ev_congr (fun k => laws_markIntS_eq k l m) ?_
  refine mark_loop (fun k l c i => laws_markIntS_h2 k l c i) (fun k => k) m 1 l.length (fun k xs c hx => ?_) (fun n xs r hn hx H => ?_) l rfl
  · rw [laws_markIntS_h2_eq, if_neg (by omega)]
  · refine ev_shift ?_
    simp only [laws_markIntS_h2_eq, ev_ite_iff, Int.toNat_natCast, wrap_nat (show n < 9223372036854775807 by omega), wrap_of (x := m + 1 * (n : Int) + 1) (by omega) (by omega)]
    rw [if_pos (by omega), if_pos (by omega), if_pos (by omega)]
    rw [show m + 1 * (n : Int) + 1 = m + 1 * ((n + 1 : Nat) : Int) by omega]
    exact H

/-! ### heldint -/
theorem heldIntS_ev (m : Int) (N : Nat) (h0 : 0 ≤ m) (hm : m + N ≤ 1073741824) : Ev (fun k => laws_heldIntS k (mkList (fun k => k) m 1 N) m) (m + 1 * (N : Int)) := by
  refine ev_congr (fun k => laws_heldIntS_eq k _ m) ?_
  have hl := mkList_len (fun k : Int => k) m 1 N
  refine held_loop (fun k c i => laws_heldIntS_h2 k (mkList (fun k => k) m 1 N) c i) (fun k => k) m 1 N (fun k c => ?_) (fun n r hn hx H => ?_)
  · rw [laws_heldIntS_h2_eq, if_neg (by omega)]
  · refine ev_shift ?_
    simp only [laws_heldIntS_h2_eq, ev_ite_iff, rdT_get (e := .int .i64) hx, wrap_nat (show n < 9223372036854775807 by omega), wrap_of (x := m + 1 * (n : Int) + 1) (by omega) (by omega)]
    rw [if_pos (by omega), if_pos (by omega), if_pos (by omega), if_neg (by simp)]
    rw [show m + 1 * (n : Int) + 1 = m + 1 * ((n + 1 : Nat) : Int) by omega]
    exact H

/-! ### linearorder -/
theorem loopF_some {f : Nat → CallT → Option (List Int)} {q : List Int} : ∀ (rest : List CallT) (i : Nat), loopF f i rest = some q → ∃ j x, f j x = some q
  | [], _, h => by cases h
  | x :: rest, i, h => by
    simp only [loopF] at h
    split at h
    · rename_i q' hq
      cases h
      exact ⟨i, x, hq⟩
    · exact loopF_some rest (i + 1) h
theorem srch_len {ok : List Int → Nat → CallT → Bool} {l : List CallT} : ∀ (n : Nat) (p q : List Int), srch ok l n p = some q → q.length = p.length + n
  | 0, p, q, h => by simp only [srch, Option.some.injEq] at h; subst h; rfl
  | n + 1, p, q, h => by
    simp only [srch] at h
    obtain ⟨j, x, hj⟩ := loopF_some l 0 h
    cases hok : ok p j x with
    | false => rw [hok] at hj; cases hj
    | true =>
      rw [hok, cond_true] at hj
      have := srch_len n _ q hj
      simp at this; omega
def orderL (l : List CallT) : List Int × Bool := cond (callsB l) (out2 (ordO l false)) ([], false)
theorem orderL_len (l : List CallT) : (orderL l).1.length ≤ 7 := by
  unfold orderL
  cases hc : callsB l with
  | false => simp
  | true =>
    rw [cond_true]
    cases ho : ordO l false with
    | none => simp [out2]
    | some q =>
      have := srch_len _ _ _ ho
      have := calls_len hc
      simp [out2] at *
      omega
theorem law (a0 : List CallT) (h0 : okT (.slice CallK) a0) : ∃ k, laws_FnExactLinearOrder k a0 = some true := by
  apply ev_fuel
  refine ev_congr (fun k => laws_FnExactLinearOrder_eq k a0) ?_
  obtain ⟨v, hv, _, hB⟩ := szCallS_ev a0 (Nat.le_trans h0.1 (by omega)) (fun x hx => ⟨(h0.2 x hx).2.2.1, (h0.2 x hx).2.2.2.1⟩) 1048576 (by omega) (by omega)
  refine ev_bind hv ?_
  by_cases hneg : v < 0
  · exact ev_if_pos hneg (ev_some _)
  refine ev_if_neg hneg ?_
  have hs := hB (by omega)
  have hl := hs.1
  have to := toCallS_ev a0 hs.1
  have s1 := specCalls_ev a0 hs.1 hs.2
  have i1 := implCalls_ev a0 hs.1 hs.2
  have spec : Ev (fun k => spec_LinearOrder k a0) (orderL a0) := by
    refine ev_congr (fun k => spec_LinearOrder_eq k a0) ?_
    unfold orderL
    cases hc : callsB a0 with
    | false => rw [hc] at s1; exact ev_bind s1 (ev_if_pos (by simp) (ev_some _))
    | true =>
      rw [hc] at s1
      obtain ⟨r, h1, h2⟩ := specSearch_ev a0 false hc
      refine ev_bind s1 (ev_if_neg (by simp) (ev_bind h1 ?_))
      rw [cond_true]
      revert h2
      cases ordO a0 false with
      | some q => intro h2; rw [h2]; exact ev_if_neg (by simp) (ev_some _)
      | none => intro h2; exact ev_if_pos (by simpa using h2) (ev_some _)
  have impl : Ev (fun k => impl_LinearOrder k a0) (orderL a0) := by
    refine ev_congr (fun k => impl_LinearOrder_eq k a0) ?_
    unfold orderL
    cases hc : callsB a0 with
    | false => rw [hc] at i1; exact ev_bind i1 (ev_if_pos (by simp) (ev_some _))
    | true =>
      rw [hc] at i1
      exact ev_bind i1 (ev_if_neg (by simp) (ev_bind (implOrder_ev a0 false hc) (ev_some _)))
  have hlen := orderL_len a0
  generalize orderL a0 = r at spec impl hlen
  have eqr := eqIntS_ev r.1 (by omega)
  have mk := markIntS_ev r.1 1 (by omega) (by omega)
  have hd := heldIntS_ev 1 r.1.length (by omega) (by omega)
  have m0 := markCallS_ev a0 1 (by omega) (by omega)
  refine ev_bind to (ev_bind spec (ev_bind to (ev_bind impl (ev_bind eqr (ev_if_neg (by simp) (ev_if_neg (by simp) ?_))))))
  refine ev_bind to (ev_bind (eqCallS_ev a0 (by omega)) (ev_if_neg (by simp) ?_))
  refine ev_bind m0 (ev_if_neg (by simp only; omega) (ev_bind eqr (ev_if_neg (by simp) (ev_if_neg (by simp) ?_))))
  refine ev_bind mk (ev_bind hd (ev_if_neg (by omega) (ev_if_neg (by simp) ?_)))
  refine ev_bind to (ev_bind impl (ev_bind eqr (ev_if_neg (by simp) (ev_if_neg (by simp) ?_))))
  exact ev_bind hd (ev_if_neg (by omega) (ev_if_neg (by simp) (ev_some _)))

end Go.Proofs.YtdldndohfhcfnaaDoor.Fms
