/- What the law's functions give: the pure part. -/
import Derived.Test.YtienplkbbahfjaaDoorFmAid
import Derived.Test.YtienplkbbahfjaaDoorFmOpn
import Derived.Test.YtienplkbbahfjaaDoorFmXFnExactFitsOrderEq
set_option autoImplicit true
set_option maxRecDepth 100000
set_option linter.unusedVariables false
set_option linter.unusedSimpArgs false
set_option linter.unnecessarySimpa false
set_option linter.unusedSectionVars false
open Go Go.Fm Go.RowKit
namespace Go.Proofs.YtienplkbbahfjaaDoor.Fms
/-! ### base -/
theorem l1In_ev (n lo hi : Int) : Ev (fun k => spec_l1In k n lo hi) (decide (lo ≤ n ∧ n ≤ hi)) := ev_congr (fun k => by rw [spec_l1In_eq]) (by by_cases h : lo ≤ n <;> simp [ev_some_iff, h])

/-! ### inn -/
theorem in_ev (n lo hi : Int) : Ev (fun k => impl_in k n lo hi) (decide (lo ≤ n ∧ n ≤ hi)) := ev_congr (fun k => by rw [impl_in_eq]) (by by_cases h : lo ≤ n <;> simp [ev_some_iff, h])

/-! ### keys -/
def keyByte (b : UInt8) : Bool := (decide (97 ≤ b.toNat) && decide (b.toNat ≤ 122)) || (decide (48 ≤ b.toNat) && decide (b.toNat ≤ 57))
def keyB (s : ByteArray) : Bool := decide (1 ≤ s.size ∧ s.size ≤ 8) && s.data.toList.all keyByte
def keyCut : List UInt8 := [97, 98, 99, 100, 101, 102, 103, 104, 105, 106, 107, 108, 109, 110, 111, 112, 113, 114, 115, 116, 117, 118, 119, 120, 121, 122, 48, 49, 50, 51, 52, 53, 54, 55, 56, 57]
theorem keyCut_has (b : UInt8) : keyCut.contains b = keyByte b := by
  have h : ∀ n : Fin 256, keyCut.contains (UInt8.ofNat n.val) = keyByte (UInt8.ofNat n.val) := by decide +kernel
  have := h ⟨b.toNat, b.toNat_lt⟩
  simpa using this
theorem drop_nil {α : Type} (p : α → Bool) (l : List α) : (l.dropWhile p).isEmpty = l.all p := by
  induction l with
  | nil => rfl
  | cons x l ih => cases h : p x <;> simp [List.dropWhile_cons, h, ih]
theorem all_drop {α : Type} (p : α → Bool) (l : List α) : (l.dropWhile p).all p = l.all p := by
  induction l with
  | nil => rfl
  | cons x l ih => cases h : p x <;> simp [List.dropWhile_cons, h, ih]
theorem trim_nil (l : List UInt8) : (Go.Lib.trimS l keyCut).isEmpty = l.all keyByte := by
  unfold Go.Lib.trimS Go.Lib.trimLeftS Go.Lib.trimRightS
  rw [drop_nil, List.all_reverse, all_drop, List.all_reverse]
  congr 1
  funext b
  exact keyCut_has b
theorem mk_nil (l : List UInt8) : decide ((⟨l.toArray⟩ : ByteArray) = ByteArray.mk (Array.mk [])) = l.isEmpty := by
  cases l with
  | nil => exact decide_eq_true rfl
  | cons x l => exact decide_eq_false (fun h => by have := congrArg (fun b : ByteArray => b.data.size) h; simp at this)
theorem isKey_ev (s : ByteArray) : Ev (fun k => impl_isKey k s) (keyB s) := by
  refine ev_congr (fun k => impl_isKey_eq k s) ?_
  have e : MapW.strings_Trim.f s ⟨#[97, 98, 99, 100, 101, 102, 103, 104, 105, 106, 107, 108, 109, 110, 111, 112, 113, 114, 115, 116, 117, 118, 119, 120, 121, 122, 48, 49, 50, 51, 52, 53, 54, 55, 56, 57]⟩ = if s.size ≤ 9223372036854775807 then some ⟨(Go.Lib.trimS s.data.toList keyCut).toArray⟩ else none := by
    unfold MapW.strings_Trim.f
    by_cases h : s.size ≤ 9223372036854775807
    · rw [if_pos ⟨h, by decide, by decide⟩, if_pos h]; rfl
    · rw [if_neg (fun hh => h hh.1), if_neg h]
  simp only [e]
  unfold keyB
  by_cases h1 : (1 : Int) ≤ (s.size : Int)
  · by_cases h2 : (s.size : Int) ≤ 8
    · have h3 : 1 ≤ s.size ∧ s.size ≤ 8 := by omega
      rw [if_pos h1, if_pos h2, if_pos (by omega)]
      simp only [Option.bind_some, mk_nil, trim_nil, h3, decide_true, and_self, Bool.true_and]
      exact ev_some _
    · have h3 : ¬ (1 ≤ s.size ∧ s.size ≤ 8) := by omega
      rw [if_pos h1, if_neg h2]
      simp only [h3, decide_false, Bool.false_and]
      exact ev_some _
  · have h3 : ¬ (1 ≤ s.size ∧ s.size ≤ 8) := by omega
    rw [if_neg h1]
    simp only [h3, decide_false, Bool.false_and]
    exact ev_some _
theorem l1Key_ev (s : ByteArray) (hs : s.size ≤ 140737488355328) : Ev (fun k => spec_l1Key k s) (keyB s) := by
  have hl := size_len s
  have key := drop_ind0 s.data.toList (fun n rest => Ev (fun k => spec_l1Key_h2 k s (n : Int)) (rest.all keyByte && decide (1 ≤ s.size ∧ s.size ≤ 8))) ?_ ?_
  · refine ev_congr (fun k => spec_l1Key_eq k s) ?_
    unfold keyB
    rw [Bool.and_comm]
    exact key
  · refine ev_shift ?_
    simp only [spec_l1Key_h2_eq, ev_ite_iff, ev_bind_iff (l1In_ev _ _ _), ev_some_iff]
    rw [← hl, if_neg (by omega)]
    simp only [List.all_nil, Bool.true_and]
    congr 1
    exact propext ⟨fun h => by omega, fun h => by omega⟩
  · intro n b rest hn hx hd ih
    refine ev_shift ?_
    simp only [spec_l1Key_h2_eq, bt_nat hx, wrap_nat (show n < 9223372036854775807 by omega), ev_ite_iff, ev_some_iff, ev_none_iff, List.all_cons]
    rw [if_pos (by omega), if_pos (by omega), if_pos (by omega)]
    cases hp : keyByte b with
    | true =>
      simp only [Bool.true_and]
      simp only [keyByte, Bool.or_eq_true, Bool.and_eq_true, decide_eq_true_eq] at hp
      split
      · split
        · exact ih
        · rw [if_pos (by omega), if_neg (by omega)]; exact ih
      · rw [if_pos (by omega), if_neg (by omega)]; exact ih
    | false =>
      simp only [keyByte, Bool.or_eq_false_iff, Bool.and_eq_false_iff, decide_eq_false_iff_not] at hp
      simp only [Bool.false_and]
      split
      · rw [if_neg (by omega)]
        split
        · rw [if_pos (by omega)]; trivial
        · trivial
      · split
        · rw [if_pos (by omega)]; trivial
        · trivial

/-! ### allloop -/
/-! a loop that asks the same of each -/
def allFrom {α : Type} (p : Nat → α → Bool) : Nat → List α → Bool
  | _, [] => true
  | n, x :: l => p n x && allFrom p (n + 1) l
theorem allFrom_iff {α : Type} {p : Nat → α → Bool} : ∀ {l : List α} {n : Nat}, allFrom p n l = true ↔ ∀ i x, l[i]? = some x → p (n + i) x = true
  | [], n => by simp [allFrom]
  | x :: l, n => by
    simp only [allFrom, Bool.and_eq_true, allFrom_iff (l := l)]
    constructor
    · rintro ⟨h1, h2⟩ i y hy
      cases i with
      | zero => simp at hy; subst hy; exact h1
      | succ i => rw [show n + (i + 1) = n + 1 + i by omega]; exact h2 i y (by simpa using hy)
    · intro h
      refine ⟨h 0 x (by simp), fun i y hy => ?_⟩
      rw [show n + 1 + i = n + (i + 1) by omega]
      exact h (i + 1) y (by simpa using hy)
theorem all_loop {α : Type} (xs : List α) (H : Nat → Int → Option Bool) (p : Nat → α → Bool) (r : Bool) (hend : Ev (fun k => H k (xs.length : Int)) r)
    (hstep : ∀ n x v, n < xs.length → xs[n]? = some x → Ev (fun k => H k ((n + 1 : Nat) : Int)) v → Ev (fun k => H (k + 1) (n : Int)) (p n x && v)) : Ev (fun k => H k 0) (allFrom p 0 xs && r) := by
  have := drop_ind0 xs (fun n rest => Ev (fun k => H k (n : Int)) (allFrom p n rest && r)) (by simpa [allFrom] using hend) (fun n x rest hn hx _ ih => ?_)
  · simpa using this
  · refine ev_shift ?_
    have h := hstep n x _ hn hx ih
    rw [← Bool.and_assoc] at h
    exact h

/-! ### value -/
def chB (b : UInt8) : Bool := decide (32 ≤ b.toNat) && (decide (b.toNat ≤ 126) && !decide (b.toNat = 59))
def valB (s : ByteArray) : Bool := allFrom (fun _ b => chB b) 0 s.data.toList && decide (s.size ≤ 20)
theorem isValue_ev (s : ByteArray) (hs : s.size ≤ 140737488355328) : Ev (fun k => impl_isValue k s) (valB s) := by
  have hl := size_len s
  refine ev_congr (fun k => impl_isValue_eq k s) ?_
  refine all_loop s.data.toList (fun k i => impl_isValue_h2 k s (s.size : Int) i) (fun _ b => chB b) (decide (s.size ≤ 20)) ?_ ?_
  · refine ev_shift ?_
    simp only [impl_isValue_h2_eq, ev_ite_iff, ev_some_iff]
    rw [← hl, if_neg (by omega)]
    congr 1
    exact propext ⟨fun h => by omega, fun h => by omega⟩
  · intro n b v hn hx hv
    simp only [impl_isValue_h2_eq, bt_nat hx, wrap_nat (show n < 9223372036854775807 by omega), ev_ite_iff, ev_some_iff, ev_none_iff]
    have e0 : (0 : Int) ≤ (n : Int) := by omega
    have e1 : (n : Int) < (s.size : Int) := by omega
    simp only [if_pos e0, if_pos e1]
    unfold chB
    by_cases h1 : (b.toNat : Int) < 32
    · rw [if_pos h1]; simp [show ¬ 32 ≤ b.toNat by omega]
    · rw [if_neg h1]
      by_cases h2 : 126 < (b.toNat : Int)
      · rw [if_pos h2]; simp [show ¬ b.toNat ≤ 126 by omega]
      · rw [if_neg h2]
        by_cases h3 : (b.toNat : Int) = 59
        · rw [if_pos h3]; simp [show b.toNat = 59 by omega]
        · rw [if_neg h3]
          simpa [show 32 ≤ b.toNat by omega, show b.toNat ≤ 126 by omega, show ¬ b.toNat = 59 by omega] using hv
theorem l1Value_ev (s : ByteArray) (hs : s.size ≤ 140737488355328) : Ev (fun k => spec_l1Value k s) (valB s) := by
  have hl := size_len s
  refine ev_congr (fun k => spec_l1Value_eq k s) ?_
  refine all_loop s.data.toList (fun k i => spec_l1Value_h2 k s i) (fun _ b => chB b) (decide (s.size ≤ 20)) ?_ ?_
  · refine ev_shift ?_
    simp only [spec_l1Value_h2_eq, ev_ite_iff, ev_some_iff]
    rw [← hl, if_neg (by omega)]
    congr 1
    exact propext ⟨fun h => by omega, fun h => by omega⟩
  · intro n b v hn hx hv
    simp only [spec_l1Value_h2_eq, bt_nat hx, wrap_nat (show n < 9223372036854775807 by omega), ev_ite_iff, ev_some_iff, ev_none_iff]
    have e0 : (0 : Int) ≤ (n : Int) := by omega
    have e1 : (n : Int) < (s.size : Int) := by omega
    simp only [if_pos e0, if_pos e1]
    unfold chB
    by_cases h1 : (b.toNat : Int) < 32
    · rw [if_pos h1]; simp [show ¬ 32 ≤ b.toNat by omega]
    · rw [if_neg h1]
      by_cases h2 : 126 < (b.toNat : Int)
      · rw [if_pos h2]; simp [show ¬ b.toNat ≤ 126 by omega]
      · rw [if_neg h2]
        by_cases h3 : (b.toNat : Int) = 59
        · rw [if_pos h3]; simp [show b.toNat = 59 by omega]
        · rw [if_neg h3]
          simpa [show 32 ≤ b.toNat by omega, show b.toNat ≤ 126 by omega, show ¬ b.toNat = 59 by omega] using hv

/-! ### sz2 -/
/-! two texts weigh what they weigh -/
theorem sz2 {F : Nat → Int → Option Int} {p q : ByteArray} (hp : p.size ≤ 140737488351232) (hq : q.size ≤ 140737488351232) (hs : ∀ k a, F k a = (if (wrap64 (a - (p.size : Int))) < 0 then some (-1) else (if (wrap64 ((wrap64 (a - (p.size : Int))) - (q.size : Int))) < 0 then some (-1) else some (wrap64 ((wrap64 (a - (p.size : Int))) - (q.size : Int))))))
    (a : Int) (h0 : 0 ≤ a) (h1 : a ≤ 1048576) : ∃ v, Ev (fun k => F k a) v ∧ v ≤ a ∧ (0 ≤ v → p.size ≤ 1048576 ∧ q.size ≤ 1048576) := by
  have w : wrap64 (a - (p.size : Int)) = a - p.size := wrap_of (by omega) (by omega)
  have w2 : wrap64 (a - (p.size : Int) - (q.size : Int)) = a - p.size - q.size := wrap_of (by omega) (by omega)
  by_cases h : a - (p.size : Int) < 0
  · exact ⟨-1, ev_congr (fun k => by rw [hs, w, if_pos h]) (ev_some _), by omega, fun h => by omega⟩
  · by_cases h' : a - (p.size : Int) - (q.size : Int) < 0
    · exact ⟨-1, ev_congr (fun k => by rw [hs, w, if_neg h, w2, if_pos h']) (ev_some _), by omega, fun h => by omega⟩
    · exact ⟨_, ev_congr (fun k => by rw [hs, w, if_neg h, w2, if_neg h']) (ev_some _), by omega, fun _ => by omega⟩

/-! ### cats -/
theorem wrap_i64 {x : Int} (h0 : -9223372036854775808 ≤ x) (h1 : x ≤ 9223372036854775807) : IntKind.wrap .i64 x = x := by
  rw [← wrapK_eq]; unfold wrapK; rw [if_pos rfl]; exact wrap_of h0 h1
theorem catS_size0 (a b : ByteArray) : (catS a b).size = a.size + b.size := by
  show (catS a b).data.size = a.data.size + b.data.size
  simp [catS]

/-! ### calls -/
abbrev CallT := Int × Bool × ByteArray × ByteArray × Int × Int
abbrev CallK : Kind := .struct (.pair (.int .i64) (.pair .bool (.pair .str (.pair .str (.pair (.int .i64) (.int .i64))))))
def szokCall (x : CallT) : Prop := x.2.2.1.size ≤ 140737488351232 ∧ x.2.2.2.1.size ≤ 140737488351232
def szBCall (x : CallT) : Prop := x.2.2.1.size ≤ 1048576 ∧ x.2.2.2.1.size ≤ 1048576
theorem szCall_ev (x : CallT) (hx : szokCall x) (a : Int) (h0 : 0 ≤ a) (ha : a ≤ 1048576) : ∃ v, Ev (fun k => laws_szCall k x a) v ∧ v ≤ a ∧ (0 ≤ v → szBCall x) := sz2 hx.1 hx.2 (fun k a => laws_szCall_eq k x a) a h0 ha
theorem toCall_ev (x : CallT) : Ev (fun k => laws_toCall k x) x := ev_congr (fun k => laws_toCall_eq k x) (ev_some x)
theorem eqCall_ev (x : CallT) : Ev (fun k => laws_eqCall k x x) true := ev_congr (fun k => laws_eqCall_eq k x x) (by simp [ev_some_iff])
theorem szCallS_ev (l) (hl : l.length ≤ 140737488355328) (hk : ∀ x ∈ l, szokCall x) (a : Int) (h0 : 0 ≤ a) (h1 : a ≤ 1048576) : ∃ v, Ev (fun k => laws_szCallS k l a) v ∧ v ≤ a ∧ (0 ≤ v → l.length ≤ 1048576 ∧ ∀ x ∈ l, szBCall x) :=
  sz_top (fun k l a => laws_szCallS_eq k l a) (sz_row (fun k l a i => laws_szCallS_h5_eq k l a i) (fun x hx a h0 h1 => szCall_ev x (hk x hx) a h0 h1) (by omega)) hl a h0 h1
theorem toCallS_ev (l) (hl : l.length ≤ 1048576) : Ev (fun k => laws_toCallS k l) l := by
  refine ev_congr (fun k => laws_toCallS_eq k l) ?_
  simp only [ev_ite_iff]
  rw [if_pos trivial, if_pos (by omega)]
  simpa using to_row (l := l) (cv := id) (z := _) (fun k l r i => laws_toCallS_h3_eq k l r i) (fun x _ => toCall_ev x) (by omega)
theorem eqCallS_ev (l) (hl : l.length ≤ 140737488355328) : Ev (fun k => laws_eqCallS k l l) true := by
  refine ev_congr (fun k => laws_eqCallS_eq k l l) ?_
  simp only [ev_ite_iff]
  rw [if_neg (by simp)]
  exact eq_row (l := l) (fun k a b i => laws_eqCallS_h4_eq k a b i) (fun x _ => eqCall_ev x) (by omega)
theorem mgetT_put : ∀ (m : List (Int × Bool)) (n x : Int), mgetT (.int .i64) .bool (mputT (.int .i64) .bool m n true) x = (decide (x = n) || mgetT (.int .i64) .bool m x)
  | [], n, x => by
    by_cases h : x = n <;> simp [mgetT, mputT, mfind, eqT, h, zeroT]
  | p :: m, n, x => by
    have ih := mgetT_put m n x
    simp only [mgetT, mputT, mfind, eqT] at ih ⊢
    by_cases h1 : n = p.1 <;> by_cases h2 : x = p.1 <;> by_cases h3 : x = n <;> simp_all [mfind, eqT]
def baseOk (c : CallT) : Bool := decide (0 ≤ c.1 ∧ c.1 ≤ 9) && (keyB c.2.2.1 && (valB c.2.2.2.1 && (!decide (c.2.2.2.2.1 < 0) && (!decide (c.2.2.2.2.2 ≤ c.2.2.2.2.1) && !decide (1000000 ≤ c.2.2.2.2.2)))))
def clashT (c o : CallT) : Bool := decide (o.2.2.2.2.1 = c.2.2.2.2.1) || (decide (o.2.2.2.2.1 = c.2.2.2.2.2) || (decide (o.2.2.2.2.2 = c.2.2.2.2.1) || decide (o.2.2.2.2.2 = c.2.2.2.2.2)))
def overT (c o : CallT) : Bool := decide (o.1 = c.1) && (decide (o.2.2.2.2.1 < c.2.2.2.2.2) && decide (c.2.2.2.2.1 < o.2.2.2.2.2))
def callsFrom (p : List CallT) : List CallT → Bool
  | [] => true
  | c :: r => baseOk c && (p.all (fun o => !clashT c o && !overT c o) && callsFrom (p ++ [c]) r)
def callsB (l : List CallT) : Bool := callsFrom [] l && decide (l.length ≤ 7)
theorem dec_seven (n : Nat) : decide ((n : Int) ≤ 7) = decide (n ≤ 7) := by by_cases h : n ≤ 7 <;> simp [h] <;> omega
theorem calls_loop {H : Nat → Int → Option Bool} (p : List CallT) (f : CallT → Bool) (r : Bool) (hend : Ev (fun k => H k (p.length : Int)) r)
    (hstep : ∀ n o v, n < p.length → p[n]? = some o → Ev (fun k => H k ((n + 1 : Nat) : Int)) v → Ev (fun k => H (k + 1) (n : Int)) (f o && v)) : Ev (fun k => H k 0) (p.all f && r) := by
  have := all_loop p H (fun _ o => f o) r hend hstep
  have e : ∀ (l : List CallT) (n : Nat), allFrom (fun _ o => f o) n l = l.all f := by
    intro l
    induction l with
    | nil => intro n; rfl
    | cons o l ih => intro n; simp only [allFrom, ih, List.all_cons]
  rw [e] at this
  exact this
theorem overlap_ev (o c : CallT) : Ev (fun k => spec_l7Overlap k o c) (decide (o.2.2.2.2.1 < c.2.2.2.2.2) && decide (c.2.2.2.2.1 < o.2.2.2.2.2)) := by
  refine ev_congr (fun k => spec_l7Overlap_eq k o c) ?_
  simp only [ev_ite_iff, ev_some_iff]
  by_cases h : o.2.2.2.2.1 < c.2.2.2.2.2 <;> simp [h]
theorem specCalls_ev (l : List CallT) (hl : l.length ≤ 1048576) (hk : ∀ x ∈ l, szBCall x) : Ev (fun k => spec_GoodCalls k l) (callsB l) := by
  refine ev_congr (fun k => spec_GoodCalls_eq k l) ?_
  refine drop_ind0 l (fun n rest => Ev (fun k => spec_GoodCalls_h2 k l l (l.length : Int) (n : Int)) (callsFrom (l.take n) rest && decide (l.length ≤ 7))) ?_ ?_
  · exact ev_last fun k => by rw [spec_GoodCalls_h2_eq, if_neg (by omega)]; simp [callsFrom, dec_seven]
  · intro n c rest hn hc _ ih
    rw [take_snoc hc] at ih
    have hz := hk c (List.mem_of_getElem? hc)
    have hlen : (l.take n).length = n := by simp; omega
    have hsl : (List.drop (Int.toNat 0) (List.take (Int.toNat (n : Int)) l)) = l.take n := by simp
    have inner : Ev (fun k => spec_GoodCalls_h7 k l c l (l.length : Int) (n : Int) (l.take n) ((l.take n).length : Int) 0) ((l.take n).all (fun o => !clashT c o && !overT c o) && (callsFrom (l.take n ++ [c]) rest && decide (l.length ≤ 7))) := by
      refine calls_loop (H := fun k i => spec_GoodCalls_h7 k l c l (l.length : Int) (n : Int) (l.take n) ((l.take n).length : Int) i) (l.take n) _ _ ?_ ?_
      · refine ev_shift ?_
        simp only [spec_GoodCalls_h7_eq, wrap_nat (show n < 9223372036854775807 by omega), ev_ite_iff]
        rw [if_neg (by omega)]
        exact ih
      · intro j o v hj ho H
        have q0 : (0 : Int) ≤ (j : Int) := by omega
        have q1 : (j : Int) < ((l.take n).length : Int) := by omega
        simp only [spec_GoodCalls_h7_eq, rdT_get (e := CallK) ho, wrap_nat (show j < 9223372036854775807 by omega), ev_bind_iff (overlap_ev o c), ev_ite_iff, ev_none_iff, ev_some_iff]
        rw [if_pos q1, if_pos q0, if_pos q1]
        unfold clashT overT
        by_cases a1 : o.2.2.2.2.1 = c.2.2.2.2.1
        · simp [a1]
        · by_cases a2 : o.2.2.2.2.1 = c.2.2.2.2.2
          · simp [a1, a2]
          · by_cases a3 : o.2.2.2.2.2 = c.2.2.2.2.1
            · simp [a1, a2, a3]
            · by_cases a4 : o.2.2.2.2.2 = c.2.2.2.2.2
              · simp [a1, a2, a3, a4]
              · by_cases a5 : o.1 = c.1
                · by_cases a6 : o.2.2.2.2.1 < c.2.2.2.2.2 ∧ c.2.2.2.2.1 < o.2.2.2.2.2
                  · simp [a1, a2, a3, a4, a5, a6]
                  · have e6 : (decide (o.2.2.2.2.1 < c.2.2.2.2.2) && decide (c.2.2.2.2.1 < o.2.2.2.2.2)) = false := by
                      rw [Bool.and_eq_false_iff, decide_eq_false_iff_not, decide_eq_false_iff_not]; omega
                    rw [if_neg a1, if_neg a2, if_neg a3, if_neg a4, if_pos a5, e6]
                    simpa [a1, a2, a3, a4] using H
                · simpa [a1, a2, a3, a4, a5] using H
    have q0 : (0 : Int) ≤ (n : Int) := by omega
    have q1 : (n : Int) < (l.length : Int) := by omega
    have q2 : (n : Int) ≤ (l.length : Int) := by omega
    refine ev_shift ?_
    simp only [spec_GoodCalls_h2_eq, rdT_get (e := CallK) hc, hsl, ev_bind_iff (l1In_ev _ _ _), ev_bind_iff (l1Key_ev c.2.2.1 (Nat.le_trans hz.1 (by omega))), ev_bind_iff (l1Value_ev c.2.2.2.1 (Nat.le_trans hz.2 (by omega))), ev_ite_iff, ev_none_iff, ev_some_iff]
    rw [if_pos q1, if_pos q0, if_pos q1]
    have hno : (callsFrom (l.take n) (c :: rest) && decide (l.length ≤ 7)) = (baseOk c && ((l.take n).all (fun o => !clashT c o && !overT c o) && (callsFrom (l.take n ++ [c]) rest && decide (l.length ≤ 7)))) := by simp only [callsFrom, Bool.and_assoc]
    rw [hno]
    unfold baseOk
    by_cases b0 : 0 ≤ c.1 ∧ c.1 ≤ 9
    · cases b1 : keyB c.2.2.1 with
      | false => simp [b0]
      | true =>
        cases b2 : valB c.2.2.2.1 with
        | false => simp [b0]
        | true =>
          by_cases b3 : c.2.2.2.2.1 < 0
          · simp [b0, b3]
          · by_cases b4 : c.2.2.2.2.2 ≤ c.2.2.2.2.1
            · simp [b0, b3, b4]
            · by_cases b5 : 1000000 ≤ c.2.2.2.2.2
              · simp [b0, b3, b4, b5]
              · simp only [b0, b3, b4, b5, and_self, decide_true, decide_false, Bool.not_true, Bool.not_false, Bool.false_eq_true, if_false, Bool.true_and]
                rw [if_pos q0, if_pos q2]
                exact inner
    · simp [b0]
theorem implCalls_ev (l : List CallT) (hl : l.length ≤ 1048576) (hk : ∀ x ∈ l, szBCall x) : Ev (fun k => impl_areCalls k l) (callsB l) := by
  refine ev_congr (fun k => impl_areCalls_eq k l) ?_
  have key := drop_ind0 l (fun n rest => ∀ m : List (Int × Bool), (∀ x, mgetT (.int .i64) .bool m x = (l.take n).any (fun o => decide (o.2.2.2.2.1 = x) || decide (o.2.2.2.2.2 = x))) → Ev (fun k => impl_areCalls_h3 k l m l (l.length : Int) (n : Int)) (callsFrom (l.take n) rest && decide (l.length ≤ 7))) ?_ ?_
  · exact key [] (by intro x; simp [mgetT, mfind, zeroT])
  · intro m _
    exact ev_last fun k => by rw [impl_areCalls_h3_eq, if_neg (by omega)]; simp [callsFrom, dec_seven]
  · intro n c rest hn hc _ ih m hm
    rw [take_snoc hc] at ih
    have hz := hk c (List.mem_of_getElem? hc)
    have hlen : (l.take n).length = n := by simp; omega
    have hsl : (List.drop (Int.toNat 0) (List.take (Int.toNat (n : Int)) l)) = l.take n := by simp
    have hm2 : ∀ x, mgetT (.int .i64) .bool (mputT (.int .i64) .bool (mputT (.int .i64) .bool m c.2.2.2.2.1 true) c.2.2.2.2.2 true) x = (l.take n ++ [c]).any (fun o => decide (o.2.2.2.2.1 = x) || decide (o.2.2.2.2.2 = x)) := by
      intro x
      rw [mgetT_put, mgetT_put, hm x, List.any_append]
      simp only [List.any_cons, List.any_nil, Bool.or_false]
      have e4 : decide (x = c.2.2.2.2.1) = decide (c.2.2.2.2.1 = x) := decide_eq_decide.2 ⟨Eq.symm, Eq.symm⟩
      have e5 : decide (x = c.2.2.2.2.2) = decide (c.2.2.2.2.2 = x) := decide_eq_decide.2 ⟨Eq.symm, Eq.symm⟩
      rw [e4, e5]
      generalize ((l.take n).any fun o => decide (o.2.2.2.2.1 = x) || decide (o.2.2.2.2.2 = x)) = u
      cases u <;> cases decide (c.2.2.2.2.1 = x) <;> cases decide (c.2.2.2.2.2 = x) <;> rfl
    have inner : Ev (fun k => impl_areCalls_h10 k l (mputT (.int .i64) .bool (mputT (.int .i64) .bool m c.2.2.2.2.1 true) c.2.2.2.2.2 true) c l (l.length : Int) (n : Int) (l.take n) ((l.take n).length : Int) 0) ((l.take n).all (fun o => !overT c o) && (callsFrom (l.take n ++ [c]) rest && decide (l.length ≤ 7))) := by
      refine calls_loop (H := fun k i => impl_areCalls_h10 k l (mputT (.int .i64) .bool (mputT (.int .i64) .bool m c.2.2.2.2.1 true) c.2.2.2.2.2 true) c l (l.length : Int) (n : Int) (l.take n) ((l.take n).length : Int) i) (l.take n) _ _ ?_ ?_
      · refine ev_shift ?_
        simp only [impl_areCalls_h10_eq, wrap_nat (show n < 9223372036854775807 by omega), ev_ite_iff]
        rw [if_neg (by omega)]
        exact ih _ hm2
      · intro j o v hj ho H
        have q0 : (0 : Int) ≤ (j : Int) := by omega
        have q1 : (j : Int) < ((l.take n).length : Int) := by omega
        simp only [impl_areCalls_h10_eq, rdT_get (e := CallK) ho, wrap_nat (show j < 9223372036854775807 by omega), ev_ite_iff, ev_none_iff, ev_some_iff]
        rw [if_pos q1, if_pos q0, if_pos q1]
        unfold overT
        by_cases a5 : o.1 = c.1
        · by_cases a6 : o.2.2.2.2.1 < c.2.2.2.2.2
          · by_cases a7 : c.2.2.2.2.1 < o.2.2.2.2.2
            · simp [a5, a6, a7]
            · simpa [a5, a6, a7] using H
          · simpa [a5, a6] using H
        · simpa [a5, Ne.symm a5] using H
    have clash : (l.take n).any (fun o => clashT c o) = (mgetT (.int .i64) .bool m c.2.2.2.2.1 || mgetT (.int .i64) .bool m c.2.2.2.2.2) := by
      rw [hm, hm]
      generalize l.take n = p
      induction p with
      | nil => rfl
      | cons o p ih2 =>
        simp only [List.any_cons]
        rw [ih2]
        simp only [clashT]
        generalize (p.any fun o => decide (o.2.2.2.2.1 = c.2.2.2.2.1) || decide (o.2.2.2.2.2 = c.2.2.2.2.1)) = u
        generalize (p.any fun o => decide (o.2.2.2.2.1 = c.2.2.2.2.2) || decide (o.2.2.2.2.2 = c.2.2.2.2.2)) = v
        cases u <;> cases v <;> cases decide (o.2.2.2.2.1 = c.2.2.2.2.1) <;> cases decide (o.2.2.2.2.1 = c.2.2.2.2.2) <;> cases decide (o.2.2.2.2.2 = c.2.2.2.2.1) <;> cases decide (o.2.2.2.2.2 = c.2.2.2.2.2) <;> rfl
    have split2 : (l.take n).all (fun o => !clashT c o && !overT c o) = (!((l.take n).any (fun o => clashT c o)) && (l.take n).all (fun o => !overT c o)) := by
      generalize l.take n = p
      induction p with
      | nil => rfl
      | cons o p ih2 =>
        simp only [List.all_cons, List.any_cons, ih2]
        cases clashT c o <;> cases overT c o <;> simp
    have q0 : (0 : Int) ≤ (n : Int) := by omega
    have q1 : (n : Int) < (l.length : Int) := by omega
    have q2 : (n : Int) ≤ (l.length : Int) := by omega
    refine ev_shift ?_
    simp only [impl_areCalls_h3_eq, rdT_get (e := CallK) hc, hsl, ev_bind_iff (in_ev _ _ _), ev_bind_iff (isKey_ev c.2.2.1), ev_bind_iff (isValue_ev c.2.2.2.1 (Nat.le_trans hz.2 (by omega))), ev_ite_iff, ev_none_iff, ev_some_iff]
    rw [if_pos q1, if_pos q0, if_pos q1]
    have hno : (callsFrom (l.take n) (c :: rest) && decide (l.length ≤ 7)) = (baseOk c && ((!(mgetT (.int .i64) .bool m c.2.2.2.2.1 || mgetT (.int .i64) .bool m c.2.2.2.2.2)) && ((l.take n).all (fun o => !overT c o) && (callsFrom (l.take n ++ [c]) rest && decide (l.length ≤ 7))))) := by
      rw [← clash]
      simp only [callsFrom, split2, Bool.and_assoc]
    rw [hno]
    unfold baseOk
    by_cases b0 : 0 ≤ c.1 ∧ c.1 ≤ 9
    · cases b1 : keyB c.2.2.1 with
      | false => simp [b0]
      | true =>
        cases b2 : valB c.2.2.2.1 with
        | false => simp [b0]
        | true =>
          by_cases b3 : c.2.2.2.2.1 < 0
          · simp [b0, b3]
          · by_cases b4 : c.2.2.2.2.2 ≤ c.2.2.2.2.1
            · simp [b0, b3, b4]
            · by_cases b5 : 1000000 ≤ c.2.2.2.2.2
              · simp [b0, b3, b4, b5]
              · simp only [b0, b3, b4, b5, and_self, decide_true, decide_false, Bool.not_true, Bool.not_false, Bool.false_eq_true, if_false, Bool.true_and]
                cases b6 : mgetT (.int .i64) .bool m c.2.2.2.2.1 with
                | true => simp
                | false =>
                  cases b7 : mgetT (.int .i64) .bool m c.2.2.2.2.2 with
                  | true => simp
                  | false =>
                    simp only [Bool.false_eq_true, if_false, Bool.or_false, Bool.not_false, Bool.true_and]
                    rw [if_pos q0, if_pos q2]
                    exact inner
    · simp [b0]
theorem calls_len {l : List CallT} (h : callsB l = true) : l.length ≤ 7 := by
  unfold callsB at h
  simp only [Bool.and_eq_true, decide_eq_true_eq] at h
  exact h.2

/-! ### has -/
def hasB (l : List Int) (n : Int) : Bool := l.any fun x => decide (x = n)
theorem hasB_iff {l : List Int} {n : Int} : hasB l n = true ↔ n ∈ l := by simp [hasB]
theorem l1Has_ev (l : List Int) (n : Int) (hl : l.length ≤ 140737488355328) : Ev (fun k => spec_l1Has k l n) (hasB l n) := by
  have key := drop_ind0 l (fun j rest => Ev (fun k => spec_l1Has_h2 k n l (l.length : Int) (j : Int)) (hasB rest n)) ?_ ?_
  · exact ev_congr (fun k => spec_l1Has_eq k l n) key
  · exact ev_last fun k => by rw [spec_l1Has_h2_eq, if_neg (by omega)]; rfl
  · intro j x rest hj hx hd ih
    refine ev_shift ?_
    simp only [spec_l1Has_h2_eq, rdT_get (e := .int .i64) hx, wrap_nat (show j < 9223372036854775807 by omega), ev_ite_iff, ev_none_iff, ev_some_iff]
    rw [if_pos (by omega), if_pos (by omega), if_pos (by omega)]
    unfold hasB
    rw [List.any_cons]
    by_cases h : x = n
    · rw [if_pos h]; simp [h]
    · rw [if_neg h]; simpa [h, hasB] using ih

/-! ### sortdup -/
/-! a row without doubles: what sorting and striking out show -/
def leI' (x y : Int) : Bool := decide (x ≤ y)
theorem sort_pw (l : List Int) : (List.mergeSort l leI').Pairwise (· ≤ ·) := by
  have := List.pairwise_mergeSort (le := leI') (fun a b c h1 h2 => by simp only [leI', decide_eq_true_eq] at *; omega) (fun a b => by simp only [leI', Bool.or_eq_true, decide_eq_true_eq]; omega) l
  exact this.imp fun h => by simpa [leI'] using h
theorem nodup_adj {l : List Int} (h : l.Pairwise (· ≤ ·)) : l.Nodup ↔ ∀ j, j + 1 < l.length → l[j]! ≠ l[j + 1]! := by
  induction l with
  | nil => simp
  | cons x l ih =>
    rw [List.pairwise_cons] at h
    rw [List.nodup_cons, ih h.2]
    constructor
    · rintro ⟨h1, h2⟩ j hj
      cases j with
      | zero =>
        cases l with
        | nil => simp at hj
        | cons y l => simpa using fun e => h1 (by simp [e])
      | succ j =>
        have := h2 j (by simp at hj; omega)
        simpa using this
    · intro hall
      refine ⟨fun hm => ?_, fun j hj => ?_⟩
      · cases l with
        | nil => cases hm
        | cons y l =>
          have h0 := hall 0 (by simp)
          have hxy : x ≠ y := by simpa using h0
          have hle := h.1 y (by simp)
          have hlt : ∀ z ∈ y :: l, y ≤ z := by
            intro z hz
            rcases List.mem_cons.1 hz with rfl | hz
            · omega
            · exact (List.pairwise_cons.1 h.2).1 z hz
          have := hlt x hm
          omega
      · have := hall (j + 1) (by simp; omega)
        simpa using this
theorem compact_len (l : List Int) : (gvCompactInt (List.mergeSort l leI')).length = l.length ↔ l.Nodup := by
  have hp := List.mergeSort_perm l leI'
  have hl : (List.mergeSort l leI').length = l.length := List.length_mergeSort l
  rw [← hp.nodup_iff, nodup_adj (sort_pw l), ← hl]
  generalize List.mergeSort l leI' = s
  unfold gvCompactInt Lib.compact Lib.compactUpTo
  rw [List.length_map]
  have e : (List.range s.length).length = s.length := List.length_range
  conv => lhs; rhs; rw [← e]
  rw [List.length_filter_eq_length_iff]
  constructor
  · intro h j hj
    have := h (j + 1) (List.mem_range.2 hj)
    simp only [Lib.keeps, decide_eq_true_eq] at this
    rcases this with h' | h'
    · omega
    · simpa using fun e => h' (by simpa using e.symm)
  · intro h j hj
    simp only [Lib.keeps, decide_eq_true_eq]
    by_cases h0 : j = 0
    · exact .inl h0
    · right
      have := h (j - 1) (by have := List.mem_range.1 hj; omega)
      rw [show j - 1 + 1 = j by omega] at this
      simpa using fun e => this (by simpa using e.symm)

/-! ### bsearch -/
/-! texts in their order -/
theorem bl_irrefl : ∀ x : List UInt8, Op.bytesLess x x = false
  | [] => rfl
  | a :: x => by simp [Op.bytesLess, bl_irrefl x]
theorem bl_trans : ∀ {x y z : List UInt8}, Op.bytesLess x y = true → Op.bytesLess y z = true → Op.bytesLess x z = true
  | x, y, [], _, h => by cases y <;> simp [Op.bytesLess] at h
  | x, [], c :: z, h, _ => by cases x <;> simp [Op.bytesLess] at h
  | [], b :: y, c :: z, _, _ => rfl
  | a :: x, b :: y, c :: z, h1, h2 => by
    simp only [Op.bytesLess, Bool.or_eq_true, Bool.and_eq_true, decide_eq_true_eq, beq_iff_eq] at h1 h2 ⊢
    rcases h1 with h1 | ⟨rfl, h1⟩
    · rcases h2 with h2 | ⟨rfl, h2⟩
      · exact .inl (UInt8.lt_trans h1 h2)
      · exact .inl h1
    · rcases h2 with h2 | ⟨rfl, h2⟩
      · exact .inl h2
      · exact .inr ⟨rfl, bl_trans h1 h2⟩
theorem cmp_facts : ∀ (x y : List UInt8), (Go.Lib.compareBytes x y < 0 ↔ Op.bytesLess x y = true) ∧ (Go.Lib.compareBytes x y = 0 ↔ x = y)
  | [], [] => by simp [Go.Lib.compareBytes, Op.bytesLess]
  | [], _ :: _ => by simp [Go.Lib.compareBytes, Op.bytesLess]
  | _ :: _, [] => by simp [Go.Lib.compareBytes, Op.bytesLess]
  | a :: x, b :: y => by
    obtain ⟨h1, h2⟩ := cmp_facts x y
    simp only [Go.Lib.compareBytes, Op.bytesLess]
    by_cases hab : a < b
    · have hne : a ≠ b := fun e => by subst e; exact absurd hab (UInt8.lt_irrefl _)
      simp [hab, hne]
    · by_cases hba : b < a
      · have hne : a ≠ b := fun e => by subst e; exact absurd hba (UInt8.lt_irrefl _)
        simp [hab, hba, hne]
      · have he : a = b := UInt8.le_antisymm (UInt8.not_lt.1 hba) (UInt8.not_lt.1 hab)
        subst he
        simp only [hab, if_false, h1, h2, decide_false, Bool.false_or, beq_self_eq_true, Bool.true_and, List.cons.injEq, true_and, and_self]
theorem cmp_neg (a b : ByteArray) : gvCompare a b < 0 ↔ lessS a b = true := by
  unfold gvCompare lessS
  rw [ByteArray.toList_eq, ByteArray.toList_eq]
  exact (cmp_facts _ _).1
theorem cmp_zero (a b : ByteArray) : gvCompare a b = 0 ↔ a = b := by
  unfold gvCompare
  rw [(cmp_facts _ _).2]
  exact ⟨fun h => Go.WideShapes.bytes_inj h, fun h => by rw [h]⟩
theorem lessS_trans {a b c : ByteArray} (h : lessS a b = true) (h' : lessS b c = true) : lessS a c = true := bl_trans h h'
theorem lessS_irrefl (a : ByteArray) : lessS a a = false := bl_irrefl _
/-! search -/
theorem mid_eq {a b : Nat} (h : a ≤ b) (hb : b ≤ 140737488355328) : (Go.IntKind.wrap Go.IntKind.i64 (Int.fdiv (Go.IntKind.wrap Go.IntKind.u64 (wrap64 ((a : Int) + (b : Int)))) (Int.instNatPow.1 2 (Min.min (Int.toNat 1) 64)))) = (((a + b) / 2 : Nat) : Int) := by
  have w1 : wrap64 ((a : Int) + (b : Int)) = ((a + b : Nat) : Int) := by rw [wrap_of (by omega) (by omega)]; omega
  have w2 : (Int.instNatPow.1 2 (Min.min (Int.toNat 1) 64) : Int) = 2 := by decide
  rw [w1, w2, wraps_u64 _ (by omega) (by omega)]
  have w3 : Int.fdiv ((a + b : Nat) : Int) 2 = (((a + b) / 2 : Nat) : Int) := by
    rw [Int.fdiv_eq_ediv_of_nonneg _ (by omega)]; omega
  rw [w3]
  have : ∀ n : Nat, n < 9223372036854775807 → Go.IntKind.wrap Go.IntKind.i64 (n : Int) = (n : Int) := fun n hn => by
    simp only [IntKind.wrap, IntKind.signed, IntKind.bits]
    simp
    omega
  exact this _ (by omega)
section
variable {e : Kind} {H : Nat → Int → Int → Option (Int × Bool)} {F : Nat → e.T → Option Int} {cv : e.T → Int} {l : List e.T}
theorem bs_ev (hl : l.length ≤ 140737488355328) (hF : ∀ x, Ev (fun k => F k x) (cv x))
    (hs : ∀ k lo hi, H (k + 1) lo hi = (if lo < hi then (if 0 ≤ (Go.IntKind.wrap Go.IntKind.i64 (Int.fdiv (Go.IntKind.wrap Go.IntKind.u64 (wrap64 (lo + hi))) (Int.instNatPow.1 2 (Min.min (Int.toNat 1) 64)))) then (if (Go.IntKind.wrap Go.IntKind.i64 (Int.fdiv (Go.IntKind.wrap Go.IntKind.u64 (wrap64 (lo + hi))) (Int.instNatPow.1 2 (Min.min (Int.toNat 1) 64)))) < (l.length : Int) then
      ((F k (rdT e l (Go.IntKind.wrap Go.IntKind.i64 (Int.fdiv (Go.IntKind.wrap Go.IntKind.u64 (wrap64 (lo + hi))) (Int.instNatPow.1 2 (Min.min (Int.toNat 1) 64)))))).bind fun t => if t < 0 then H k (wrap64 ((Go.IntKind.wrap Go.IntKind.i64 (Int.fdiv (Go.IntKind.wrap Go.IntKind.u64 (wrap64 (lo + hi))) (Int.instNatPow.1 2 (Min.min (Int.toNat 1) 64)))) + 1)) hi else H k lo (Go.IntKind.wrap Go.IntKind.i64 (Int.fdiv (Go.IntKind.wrap Go.IntKind.u64 (wrap64 (lo + hi))) (Int.instNatPow.1 2 (Min.min (Int.toNat 1) 64))))) else none) else none)
      else (if lo < (l.length : Int) then (if 0 ≤ lo then (if lo < (l.length : Int) then ((F k (rdT e l lo)).bind fun t => some (lo, decide (t = 0))) else none) else none) else some (lo, false)))) :
    ∃ (i : Nat) (f : Bool), Ev (fun k => H k 0 (l.length : Int)) ((i : Int), f) ∧ i ≤ l.length ∧ (∀ x, 0 < i → l[i - 1]? = some x → cv x < 0) ∧ (∀ x, l[i]? = some x → ¬ cv x < 0) ∧ (f = true ↔ ∃ x, l[i]? = some x ∧ cv x = 0) := by
  have key : ∀ d lo hi : Nat, hi - lo = d → lo ≤ hi → hi ≤ l.length → (∀ x, 0 < lo → l[lo - 1]? = some x → cv x < 0) → (∀ x, l[hi]? = some x → ¬ cv x < 0) →
      ∃ (i : Nat) (f : Bool), Ev (fun k => H k (lo : Int) (hi : Int)) ((i : Int), f) ∧ i ≤ l.length ∧ (∀ x, 0 < i → l[i - 1]? = some x → cv x < 0) ∧ (∀ x, l[i]? = some x → ¬ cv x < 0) ∧ (f = true ↔ ∃ x, l[i]? = some x ∧ cv x = 0) := by
    intro d
    induction d using Nat.strongRecOn with
    | ind d ih =>
      intro lo hi hd hle hhi h1 h2
      by_cases hlt : lo < hi
      · have hm : (lo + hi) / 2 < l.length := by omega
        have hx : l[(lo + hi) / 2]? = some l[(lo + hi) / 2] := List.getElem?_eq_getElem hm
        generalize l[(lo + hi) / 2] = x at hx
        have hmid := mid_eq hle (by omega)
        by_cases hc : cv x < 0
        · obtain ⟨i, f, r1, r2⟩ := ih (hi - ((lo + hi) / 2 + 1)) (by omega) ((lo + hi) / 2 + 1) hi rfl (by omega) hhi (fun y _ hy => by
            rw [show (lo + hi) / 2 + 1 - 1 = (lo + hi) / 2 from rfl, hx] at hy; cases hy; exact hc) h2
          refine ⟨i, f, ev_shift ?_, r2⟩
          simp only [hs, hmid, rdT_get hx, ev_bind_iff (hF x), ev_ite_iff, ev_none_iff, wrap_nat (show (lo + hi) / 2 < 9223372036854775807 by omega)]
          rw [if_pos (by omega), if_pos (by omega), if_pos (by omega), if_pos hc]
          exact r1
        · obtain ⟨i, f, r1, r2⟩ := ih ((lo + hi) / 2 - lo) (by omega) lo ((lo + hi) / 2) rfl (by omega) (by omega) h1 (fun y hy => by rw [hx] at hy; cases hy; exact hc)
          refine ⟨i, f, ev_shift ?_, r2⟩
          simp only [hs, hmid, rdT_get hx, ev_bind_iff (hF x), ev_ite_iff, ev_none_iff]
          rw [if_pos (by omega), if_pos (by omega), if_pos (by omega), if_neg hc]
          exact r1
      · have he : lo = hi := by omega
        subst he
        by_cases hlo : lo < l.length
        · have hx : l[lo]? = some l[lo] := List.getElem?_eq_getElem hlo
          generalize l[lo] = x at hx
          refine ⟨lo, decide (cv x = 0), ev_shift ?_, by omega, h1, h2, ?_⟩
          · simp only [hs, rdT_get hx, ev_bind_iff (hF x), ev_ite_iff, ev_none_iff, ev_some_iff]
            rw [if_neg (by omega), if_pos (by omega), if_pos (by omega), if_pos (by omega)]
            trivial
          · simp [hx]
        · refine ⟨lo, false, ev_shift ?_, by omega, h1, h2, ?_⟩
          · simp only [hs, ev_ite_iff, ev_none_iff, ev_some_iff]
            rw [if_neg (by omega), if_neg (by omega)]
            trivial
          · have : l[lo]? = none := List.getElem?_eq_none (by omega)
            simp [this]
  have := key l.length 0 l.length (by omega) (by omega) (by omega) (fun x h => absurd h (by omega)) (fun x h => by rw [List.getElem?_eq_none (by omega)] at h; cases h)
  simpa using this
/-- in a row in strict order, what is searched is where it is -/
def sortedBy (key : e.T → ByteArray) (l : List e.T) : Prop := ∀ i x y, l[i]? = some x → l[i + 1]? = some y → lessS (key x) (key y) = true
theorem sorted_lt {key : e.T → ByteArray} (h : sortedBy key l) : ∀ d i x y, l[i]? = some x → l[i + d + 1]? = some y → lessS (key x) (key y) = true := by
  intro d
  induction d with
  | zero => intro i x y hx hy; exact h i x y hx hy
  | succ d ih =>
    intro i x y hx hy
    have hlt : i + (d + 1) + 1 < l.length := by
      rcases Nat.lt_or_ge (i + (d + 1) + 1) l.length with h | h
      · exact h
      · rw [List.getElem?_eq_none h] at hy; cases hy
    have hz : l[i + d + 1]? = some l[i + d + 1] := List.getElem?_eq_getElem (by omega)
    exact lessS_trans (ih i x _ hx hz) (h (i + d + 1) _ y hz hy)
theorem bs_sorted {key : e.T → ByteArray} {s : ByteArray} (hsrt : sortedBy key l) {i : Nat} (h1 : ∀ x, 0 < i → l[i - 1]? = some x → gvCompare (key x) s < 0) (h2 : ∀ x, l[i]? = some x → ¬ gvCompare (key x) s < 0) (hi : i ≤ l.length)
    {j : Nat} {y : e.T} (hy : l[j]? = some y) (hk : key y = s) : j = i := by
  have hj : j < l.length := by
    rcases Nat.lt_or_ge j l.length with h | h
    · exact h
    · rw [List.getElem?_eq_none h] at hy; cases hy
  rcases Nat.lt_trichotomy j i with h | h | h
  · exfalso
    have hp : l[i - 1]? = some l[i - 1] := List.getElem?_eq_getElem (by omega)
    have hneg := h1 _ (by omega) hp
    rw [cmp_neg] at hneg
    by_cases he : j = i - 1
    · subst he
      rw [hp] at hy; cases hy
      rw [hk, lessS_irrefl] at hneg; cases hneg
    · have := sorted_lt hsrt (i - 1 - j - 1) j y _ hy (by rw [show j + (i - 1 - j - 1) + 1 = i - 1 by omega]; exact hp)
      rw [hk] at this
      have := lessS_trans this hneg
      rw [lessS_irrefl] at this; cases this
  · exact h
  · exfalso
    have hp : l[i]? = some l[i] := List.getElem?_eq_getElem (by omega)
    have hnn := h2 _ hp
    rw [cmp_neg] at hnn
    have := sorted_lt hsrt (j - i - 1) i _ y hp (by rw [show i + (j - i - 1) + 1 = j by omega]; exact hy)
    rw [hk] at this
    exact hnn this
end

/-! ### cells -/
/-! cells that are put in their places, looked up -/
abbrev CellT := ByteArray × ByteArray
abbrev CellK : Kind := .struct (.pair .str .str)
def putC : List CellT → CellT → List CellT
  | [], x => [x]
  | y :: l, x => if lessS y.1 x.1 = true then y :: putC l x else if y.1 = x.1 then x :: l else x :: y :: l
def valC : List CellT → ByteArray → ByteArray
  | [], _ => ⟨#[]⟩
  | y :: l, key => if y.1 = key then y.2 else valC l key
theorem putC_len : ∀ (l : List CellT) (x : CellT), (putC l x).length ≤ l.length + 1
  | [], x => by simp [putC]
  | y :: l, x => by
    have := putC_len l x
    simp only [putC]
    split
    · simp only [List.length_cons]; omega
    · split <;> simp
theorem valC_put (key : ByteArray) : ∀ (l : List CellT) (x : CellT), valC (putC l x) key = if x.1 = key then x.2 else valC l key
  | [], x => by simp [putC, valC]
  | y :: l, x => by
    have ih := valC_put key l x
    simp only [putC]
    by_cases h : lessS y.1 x.1 = true
    · rw [if_pos h]
      simp only [valC, ih]
      by_cases h1 : y.1 = key
      · have : x.1 ≠ key := fun e => by rw [h1, e, lessS_irrefl] at h; cases h
        rw [if_pos h1, if_neg this, if_pos h1]
      · rw [if_neg h1, if_neg h1]
    · rw [if_neg h]
      by_cases h2 : y.1 = x.1
      · rw [if_pos h2]
        simp only [valC]
        by_cases h3 : x.1 = key
        · rw [if_pos h3, if_pos h3]
        · rw [if_neg h3, if_neg h3, if_neg (by rw [h2]; exact h3)]
      · rw [if_neg h2]
        simp only [valC]
theorem l3Cells_ev (l : List CellT) (x : CellT) (hl : l.length ≤ 1048576) : Ev (fun k => spec_l3Cells k l x) (putC l x) := by
  have h9 : ∀ (n : Nat) (acc : List CellT), n ≤ l.length → acc.length ≤ l.length + 1 → Ev (fun k => spec_l3Cells_h9 k l (n : Int) acc) (acc ++ l.drop n) := by
    intro n acc hn ha
    refine ev_shift ?_
    have hs : List.drop (Int.toNat (n : Int)) (List.take (Int.toNat ((l.length : Nat) : Int)) l) = l.drop n := by simp
    simp only [spec_l3Cells_h9_eq, ev_ite_iff, ev_some_iff, ev_none_iff, hs]
    rw [if_pos (by omega), if_pos (by omega), if_pos (by rw [List.length_drop]; omega)]
    trivial
  have key := drop_ind l (fun n rest => Ev (fun k => spec_l3Cells_h2 k l x (n : Int)) (l.take n ++ putC rest x)) ?_ ?_
  · refine ev_congr (fun k => spec_l3Cells_eq k l x) ?_
    have := key 0 (Nat.zero_le _)
    simpa using this
  · refine ev_shift ?_
    have hs : List.drop (Int.toNat 0) (List.take (Int.toNat ((l.length : Nat) : Int)) l) = l := by simp
    have := h9 l.length (([] ++ l) ++ List.cons x []) (Nat.le_refl _) (by simp)
    simp only [spec_l3Cells_h2_eq, ev_ite_iff, ev_none_iff, hs]
    rw [if_neg (by omega), if_pos (by omega), if_pos (by omega), if_pos (by omega), if_pos (by simp; omega), if_neg (by omega)]
    simpa [putC] using this
  · intro n y rest hn hy hd ih
    have q0 : (0 : Int) ≤ (n : Int) := by omega
    have q1 : (n : Int) < (l.length : Int) := by omega
    have hs : List.drop (Int.toNat 0) (List.take (Int.toNat (n : Int)) l) = l.take n := by simp
    have hlt : (l.take n).length = n := by simp; omega
    refine ev_shift ?_
    simp only [spec_l3Cells_h2_eq, rdT_get (e := CellK) hy, wrap_nat (show n < 9223372036854775807 by omega), ev_ite_iff, ev_none_iff, hs]
    rw [if_pos q1, if_pos q0, if_pos q1]
    simp only [putC]
    by_cases h : lessS y.1 x.1 = true
    · rw [if_pos h, if_pos h]
      rw [take_snoc hy] at ih
      simpa using ih
    · rw [if_neg h, if_neg h, if_pos q0, if_pos (by omega), if_pos (by rw [hlt]; omega), if_pos (by simp; omega), if_pos q1, if_pos q0, if_pos q1]
      by_cases h2 : y.1 = x.1
      · rw [if_pos h2, if_pos h2]
        have := h9 (n + 1) (([] ++ l.take n) ++ List.cons x []) hn (by simp; omega)
        rw [drop_next hd] at this
        simpa using this
      · rw [if_neg h2, if_neg h2]
        have := h9 n (([] ++ l.take n) ++ List.cons x []) (by omega) (by simp; omega)
        rw [hd] at this
        simpa using this
theorem mgetS_put : ∀ (m : List (ByteArray × ByteArray)) (n v x : ByteArray), mgetT .str .str (mputT .str .str m n v) x = if n = x then v else mgetT .str .str m x
  | [], n, v, x => by
    by_cases h : n = x
    · subst h; simp [mgetT, mputT, mfind, eqT, zeroT]
    · simp [mgetT, mputT, mfind, eqT, h, zeroT, Ne.symm h]
  | p :: m, n, v, x => by
    have ih := mgetS_put m n v x
    simp only [mgetT, mputT, mfind, eqT] at ih ⊢
    by_cases h1 : n = p.1 <;> by_cases h2 : x = p.1 <;> by_cases h3 : n = x <;> simp_all [mfind, eqT]

/-! ### cellval -/
theorem l3Value_ev (l : List CellT) (key : ByteArray) (hl : l.length ≤ 1048576) : Ev (fun k => spec_l3Value k l key) (valC l key) := by
  refine ev_congr (fun k => spec_l3Value_eq k l key) ?_
  refine drop_ind0 l (fun n rest => Ev (fun k => spec_l3Value_h2 k key l (l.length : Int) (n : Int)) (valC rest key)) ?_ ?_
  · exact ev_last fun k => by rw [spec_l3Value_h2_eq, if_neg (by omega)]; rfl
  · intro n y rest hn hy _ ih
    have q0 : (0 : Int) ≤ (n : Int) := by omega
    have q1 : (n : Int) < (l.length : Int) := by omega
    refine ev_shift ?_
    simp only [spec_l3Value_h2_eq, rdT_get (e := CellK) hy, wrap_nat (show n < 9223372036854775807 by omega), ev_ite_iff, ev_none_iff, ev_some_iff, valC]
    rw [if_pos q1, if_pos q0, if_pos q1]
    by_cases h : y.1 = key
    · rw [if_pos h, if_pos h]
    · rw [if_neg h, if_neg h]; exact ih

/-! ### int -/
theorem toIntS_ev (l) (hl : l.length ≤ 1048576) : Ev (fun k => laws_toIntS k l) l := by
  refine ev_congr (fun k => laws_toIntS_eq k l) ?_
  simp only [ev_ite_iff]
  rw [if_pos trivial, if_pos (by omega)]
  simpa using to_row0 (e := .int .i64) (l := l) (z := _) (fun k l r i => laws_toIntS_h3_eq k l r i) (by omega)
theorem eqIntS_ev (l) (hl : l.length ≤ 140737488355328) : Ev (fun k => laws_eqIntS k l l) true := by
  refine ev_congr (fun k => laws_eqIntS_eq k l l) ?_
  simp only [ev_ite_iff]
  rw [if_neg (by simp)]
  exact eq_row0 (e := .int .i64) (l := l) (c := fun x y => x = y) (fun k a b i => laws_eqIntS_h4_eq k a b i) (fun x => rfl) (by omega)

/-! ### fitsorder -/
/-! FitsOrder -/
theorem idx_nonneg {α : Type} (p : α → Bool) : ∀ (l : List α) (n : Nat), decide (0 ≤ idxFrom p n l) = l.any p
  | [], n => rfl
  | x :: l, n => by
    rw [List.any_cons, ← idx_nonneg p l (n + 1), idxFrom]
    by_cases h : p x = true <;> simp [h]
def rangeB (N n : Int) : Bool := decide (0 ≤ n ∧ n ≤ N - 1)
def validFrom (N : Int) (p : List Int) : List Int → Bool
  | [] => true
  | n :: r => rangeB N n && (!hasB p n && validFrom N (p ++ [n]) r)
def fitsFrom (l : List CallT) : (ByteArray → ByteArray) → List Int → Bool
  | _, [] => true
  | f, n :: r => if (rdT CallK l n).2.1 = true then fitsFrom l (fun key => if (rdT CallK l n).2.2.1 = key then (rdT CallK l n).2.2.2.1 else f key) r
      else if f (rdT CallK l n).2.2.1 = (rdT CallK l n).2.2.2.1 then fitsFrom l f r else false
theorem valid_iff (N : Int) : ∀ (r p : List Int), validFrom N p r = true ↔ (∀ n ∈ r, rangeB N n = true) ∧ r.Nodup ∧ ∀ n ∈ r, n ∉ p
  | [], p => by simp [validFrom]
  | n :: r, p => by
    simp only [validFrom, Bool.and_eq_true, Bool.not_eq_true', valid_iff N r (p ++ [n]), List.nodup_cons, List.mem_cons, List.mem_append, List.not_mem_nil, or_false, ← Bool.not_eq_true, hasB_iff]
    constructor
    · rintro ⟨h1, h2, h3, h4, h5⟩
      refine ⟨?_, ⟨fun hm => h5 n hm (.inr rfl), h4⟩, ?_⟩
      · rintro z (rfl | hz)
        · exact h1
        · exact h3 z hz
      · rintro z (rfl | hz)
        · exact h2
        · exact fun hp => h5 z hz (.inl hp)
    · rintro ⟨h1, ⟨h2, h3⟩, h4⟩
      refine ⟨h1 n (.inl rfl), h4 n (.inl rfl), fun z hz => h1 z (.inr hz), h3, ?_⟩
      rintro z hz (hp | rfl)
      · exact h4 z (.inr hz) hp
      · exact h2 hz
theorem specFits_ev (l : List CallT) (o : List Int) (ho : o.length ≤ 1048576) (hl : l.length ≤ 1048576) (hr : ∀ n ∈ o, rangeB (l.length : Int) n = true) : Ev (fun k => spec_FitsOrder_h11 k l [] o (o.length : Int) 0) (fitsFrom l (valC []) o, true) := by
  have key := drop_ind o (fun n rest => ∀ c : List CellT, c.length ≤ n → Ev (fun k => spec_FitsOrder_h11 k l c o (o.length : Int) (n : Int)) (fitsFrom l (valC c) rest, true)) ?_ ?_
  · exact key 0 (Nat.zero_le _) [] (by simp)
  · intro c _
    exact ev_last fun k => by rw [spec_FitsOrder_h11_eq, if_neg (by omega)]; rfl
  · intro n x rest hn hx _ ih c hc
    have q0 : (0 : Int) ≤ (n : Int) := by omega
    have q1 : (n : Int) < (o.length : Int) := by omega
    have hrx := hr x (List.mem_of_getElem? hx)
    simp only [rangeB, decide_eq_true_eq] at hrx
    refine ev_shift ?_
    simp only [spec_FitsOrder_h11_eq, rdT_get (e := .int .i64) hx, wrap_nat (show n < 9223372036854775807 by omega), ev_ite_iff, ev_none_iff, ev_bind_iff (l3Cells_ev c _ (by omega)), ev_bind_iff (l3Value_ev c _ (by omega)), ev_some_iff]
    rw [if_pos q1, if_pos q0, if_pos q1, if_pos hrx.1, if_pos (show x < (l.length : Int) by omega)]
    simp only [fitsFrom]
    by_cases hw : (rdT CallK l x).2.1 = true
    · rw [if_pos hw, if_pos hw]
      have := ih (putC c ((rdT CallK l x).2.2.1, (rdT CallK l x).2.2.2.1)) (by have := putC_len c ((rdT CallK l x).2.2.1, (rdT CallK l x).2.2.2.1); omega)
      rw [show valC (putC c ((rdT CallK l x).2.2.1, (rdT CallK l x).2.2.2.1)) = fun key => if (rdT CallK l x).2.2.1 = key then (rdT CallK l x).2.2.2.1 else valC c key from funext fun key => valC_put key c _] at this
      exact this
    · rw [if_neg hw, if_neg hw]
      by_cases hv : valC c (rdT CallK l x).2.2.1 = (rdT CallK l x).2.2.2.1
      · rw [if_neg (by simpa using hv), if_pos hv]
        exact ih c (by omega)
      · rw [if_pos hv, if_neg hv]
theorem implFits_ev (l : List CallT) (o : List Int) (ho : o.length ≤ 1048576) (hl : l.length ≤ 1048576) (hr : ∀ n ∈ o, rangeB (l.length : Int) n = true) : Ev (fun k => impl_fits k l o) (fitsFrom l (valC []) o) := by
  refine ev_congr (fun k => impl_fits_eq k l o) ?_
  have key := drop_ind o (fun n rest => ∀ m : List (ByteArray × ByteArray), Ev (fun k => impl_fits_h3 k l m o (o.length : Int) (n : Int)) (fitsFrom l (mgetT .str .str m) rest)) ?_ ?_
  · exact key 0 (Nat.zero_le _) []
  · intro m
    exact ev_last fun k => by rw [impl_fits_h3_eq, if_neg (by omega)]; rfl
  · intro n x rest hn hx _ ih m
    have q0 : (0 : Int) ≤ (n : Int) := by omega
    have q1 : (n : Int) < (o.length : Int) := by omega
    have hrx := hr x (List.mem_of_getElem? hx)
    simp only [rangeB, decide_eq_true_eq] at hrx
    refine ev_shift ?_
    simp only [impl_fits_h3_eq, rdT_get (e := .int .i64) hx, wrap_nat (show n < 9223372036854775807 by omega), ev_ite_iff, ev_none_iff, ev_some_iff]
    rw [if_pos q1, if_pos q0, if_pos q1, if_pos hrx.1, if_pos (show x < (l.length : Int) by omega)]
    simp only [fitsFrom]
    by_cases hw : (rdT CallK l x).2.1 = true
    · rw [if_pos hw, if_pos hw]
      have := ih (mputT .str .str m (rdT CallK l x).2.2.1 (rdT CallK l x).2.2.2.1)
      rw [show mgetT .str .str (mputT .str .str m (rdT CallK l x).2.2.1 (rdT CallK l x).2.2.2.1) = fun key => if (rdT CallK l x).2.2.1 = key then (rdT CallK l x).2.2.2.1 else mgetT .str .str m key from funext fun key => mgetS_put m _ _ key] at this
      exact this
    · rw [if_neg hw, if_neg hw]
      by_cases hv : mgetT .str .str m (rdT CallK l x).2.2.1 = (rdT CallK l x).2.2.2.1
      · rw [if_neg (by simpa using hv), if_pos hv]
        exact ih m
      · rw [if_pos hv, if_neg hv]
theorem specOrder_ev (l : List CallT) (o : List Int) (ho : o.length ≤ 1048576) (hl : l.length ≤ 1048576) : Ev (fun k => spec_FitsOrder_h4 k l o o (o.length : Int) 0) (if validFrom (l.length : Int) [] o = true then (fitsFrom l (valC []) o, true) else (false, false)) := by
  have hall : ∀ (n : Nat) (p r : List Int), o.take n = p → o.drop n = r → validFrom (l.length : Int) p r = true → (∀ z ∈ p, rangeB (l.length : Int) z = true) → ∀ z ∈ o, rangeB (l.length : Int) z = true := by
    intro n p r h1 h2 h3 h4 z hz
    rw [← List.take_append_drop n o, h1, h2] at hz
    rcases List.mem_append.1 hz with hz | hz
    · exact h4 z hz
    · exact ((valid_iff _ r p).1 h3).1 z hz
  have key := drop_ind o (fun n rest => (∀ z ∈ o.take n, rangeB (l.length : Int) z = true) → o.drop n = rest → Ev (fun k => spec_FitsOrder_h4 k l o o (o.length : Int) (n : Int)) (if validFrom (l.length : Int) (o.take n) rest = true then (fitsFrom l (valC []) o, true) else (false, false))) ?_ ?_
  · have := key 0 (Nat.zero_le _) (by simp) (by simp)
    simpa using this
  · intro hz _
    refine ev_shift ?_
    rw [List.take_length] at hz
    simp only [spec_FitsOrder_h4_eq, ev_ite_iff]
    rw [if_neg (by omega)]
    simpa [validFrom] using specFits_ev l o ho hl hz
  · intro n x rest hn hx hd ih hz _
    have q0 : (0 : Int) ≤ (n : Int) := by omega
    have q1 : (n : Int) < (o.length : Int) := by omega
    have hs : List.drop (Int.toNat 0) (List.take (Int.toNat (n : Int)) o) = o.take n := by simp
    refine ev_shift ?_
    simp only [spec_FitsOrder_h4_eq, rdT_get (e := .int .i64) hx, wrap_nat (show n < 9223372036854775807 by omega), wrap_pred (show l.length < 9223372036854775807 by omega), hs, ev_ite_iff, ev_none_iff, ev_some_iff, ev_bind_iff (l1In_ev _ _ _), ev_bind_iff (l1Has_ev (o.take n) x (by rw [List.length_take]; omega))]
    rw [if_pos q1, if_pos q0, if_pos q1]
    simp only [validFrom]
    have er : decide (0 ≤ x ∧ x ≤ (l.length : Int) - 1) = rangeB (l.length : Int) x := rfl
    rw [er]
    by_cases hrb : rangeB (l.length : Int) x = true
    · rw [if_neg (by simp [hrb]), if_pos q0, if_pos (by omega)]
      by_cases hh : hasB (o.take n) x = true
      · rw [if_pos hh]; simp [hh]
      · rw [if_neg hh]
        have := ih (by rw [take_snoc hx]; intro z hz'; rcases List.mem_append.1 hz' with h | h; exact hz z h; rw [List.mem_singleton.1 h]; exact hrb) (drop_next hd)
        rw [take_snoc hx] at this
        simpa [hrb, hh] using this
    · rw [if_pos (by simp [hrb])]; simp [hrb]
theorem badRange_ev (l : List CallT) (o : List Int) (ho : o.length ≤ 1048576) (hl : l.length ≤ 1048576) : Ev (fun k => slices_ContainsFunc k o (l, ())) (o.any fun n => !rangeB (l.length : Int) n) := by
  have one : ∀ n : Int, Ev (fun k => impl_FitsOrder_1 k n l) (!rangeB (l.length : Int) n) := by
    intro n
    refine ev_congr (fun k => impl_FitsOrder_1_eq k n l) ?_
    simp only [wrap_pred (show l.length < 9223372036854775807 by omega), ev_bind_iff (in_ev _ _ _), ev_some_iff]
    rfl
  have key := drop_ind0 o (fun n rest => Ev (fun k => slices_IndexFunc_h2 k o (l, ()) (o.length : Int) (n : Int)) (idxFrom (fun n => !rangeB (l.length : Int) n) n rest)) ?_ ?_
  · refine ev_congr (fun k => slices_ContainsFunc_eq k o _) ?_
    simp only [ev_bind_iff (ev_congr (fun k => slices_IndexFunc_eq k o (l, ())) key), ev_some_iff, idx_nonneg]
  · exact ev_last fun k => by rw [slices_IndexFunc_h2_eq, if_neg (by omega)]; rfl
  · intro n x rest hn hx _ ih
    have q0 : (0 : Int) ≤ (n : Int) := by omega
    have q1 : (n : Int) < (o.length : Int) := by omega
    refine ev_shift ?_
    simp only [slices_IndexFunc_h2_eq, ev_bind_iff (one _), rdT_get (e := .int .i64) hx, wrap_nat (show n < 9223372036854775807 by omega), ev_ite_iff, ev_none_iff, ev_some_iff, idxFrom]
    rw [if_pos q1, if_pos q0, if_pos q1]
    by_cases h1 : rangeB (l.length : Int) x = true
    · rw [if_neg (by simp [h1]), if_neg (by simp [h1])]
      exact ih
    · rw [if_pos (by simp [h1]), if_pos (by simp [h1])]
theorem law (a0 : List CallT) (a1 : List Int) (h0 : okT (.slice CallK) a0) (h1 : okT (.slice (.int .i64)) a1) : ∃ k, laws_FnExactFitsOrder k a0 a1 = some true := by
  apply ev_fuel
  refine ev_congr (fun k => laws_FnExactFitsOrder_eq k a0 a1) ?_
  by_cases hl1 : 1048576 < a1.length
  · exact ev_if_pos (by omega) (ev_some _)
  refine ev_if_neg (by omega) ?_
  obtain ⟨v, hv, _, hB⟩ := szCallS_ev a0 (Nat.le_trans h0.1 (by omega)) (fun x hx => ⟨(h0.2 x hx).2.2.1, (h0.2 x hx).2.2.2.1⟩) 1048576 (by omega) (by omega)
  refine ev_bind hv ?_
  by_cases hneg : v < 0
  · exact ev_if_pos hneg (ev_some _)
  refine ev_if_neg hneg ?_
  have hs := hB (by omega)
  have to := toCallS_ev a0 hs.1
  have ti := toIntS_ev a1 (by omega)
  have main : ∃ r : Bool × Bool, Ev (fun k => spec_FitsOrder k a0 a1) r ∧ Ev (fun k => impl_FitsOrder k a0 a1) r := by
    have s1 := specCalls_ev a0 hs.1 hs.2
    have i1 := implCalls_ev a0 hs.1 hs.2
    have hsort : ∀ k : Nat, gvSortInt (([] : List Int) ++ a1) = some (List.mergeSort a1 leI', ()) := fun _ => by
      unfold gvSortInt
      rw [List.nil_append, if_pos (by omega)]; rfl
    have hbad := badRange_ev a0 a1 (by omega) hs.1
    have hsp := specOrder_ev a0 a1 (by omega) hs.1
    by_cases hc : callsB a0 = true ∧ a1.length = a0.length ∧ validFrom (a0.length : Int) [] a1 = true
    · obtain ⟨c1, c2, c3⟩ := hc
      have c4 := (valid_iff _ a1 []).1 c3
      have c5 : (a1.any fun n => !rangeB (a0.length : Int) n) = false := by
        rw [← Bool.not_eq_true]; simp only [List.any_eq_true, not_exists, not_and, Bool.not_eq_true']
        exact fun z hz => by simp [c4.1 z hz]
      have c6 := (compact_len a1).2 c4.2.1
      rw [c1] at s1 i1
      rw [c5] at hbad
      rw [if_pos c3] at hsp
      refine ⟨(fitsFrom a0 (valC []) a1, true), ev_congr (fun k => spec_FitsOrder_eq k a0 a1) (ev_bind s1 (ev_if_neg (by simp) (ev_if_neg (by omega) hsp))), ev_congr (fun k => impl_FitsOrder_eq k a0 a1) (ev_if_pos (by omega) ?_)⟩
      simp only [hsort 0, ev_bind_some_iff]
      exact ev_bind i1 (ev_if_neg (by simp) (ev_if_neg (by omega) (ev_bind hbad (ev_if_neg (by simp) (ev_if_neg (by omega) (ev_bind (implFits_ev a0 a1 (by omega) hs.1 c4.1) (ev_some _)))))))
    · refine ⟨(false, false), ev_congr (fun k => spec_FitsOrder_eq k a0 a1) (ev_bind s1 ?_), ev_congr (fun k => impl_FitsOrder_eq k a0 a1) (ev_if_pos (by omega) ?_)⟩
      · cases c1 : callsB a0 with
        | false => exact ev_if_pos (by simp) (ev_some _)
        | true =>
          refine ev_if_neg (by simp) ?_
          by_cases c2 : a1.length = a0.length
          · refine ev_if_neg (by omega) ?_
            rw [if_neg (fun c3 => hc ⟨c1, c2, c3⟩)] at hsp
            exact hsp
          · exact ev_if_pos (by omega) (ev_some _)
      · simp only [hsort 0, ev_bind_some_iff]
        refine ev_bind i1 ?_
        cases c1 : callsB a0 with
        | false => exact ev_if_pos (by simp) (ev_some _)
        | true =>
          refine ev_if_neg (by simp) ?_
          by_cases c2 : a1.length = a0.length
          · refine ev_if_neg (by omega) (ev_bind hbad ?_)
            cases c5 : (a1.any fun n => !rangeB (a0.length : Int) n) with
            | true => exact ev_if_pos (by simp) (ev_some _)
            | false =>
              refine ev_if_neg (by simp) (ev_if_pos ?_ (ev_some _))
              intro c6
              have c7 : (gvCompactInt (List.mergeSort a1 leI')).length = a1.length := by omega
              refine hc ⟨c1, c2, (valid_iff _ a1 []).2 ⟨fun z hz => ?_, (compact_len a1).1 c7, fun z _ => by simp⟩⟩
              rw [← Bool.not_eq_true] at c5
              simp only [List.any_eq_true, not_exists, not_and, Bool.not_eq_true'] at c5
              simpa using c5 z hz
          · exact ev_if_pos (by omega) (ev_some _)
  obtain ⟨r, b1, b2⟩ := main
  exact ev_bind to (ev_bind ti (ev_bind b1 (ev_bind to (ev_bind ti (ev_bind b2 (ev_if_neg (by simp) (ev_if_neg (by simp) (ev_bind to (ev_bind (eqCallS_ev a0 (by omega)) (ev_if_neg (by simp) (ev_bind ti (ev_bind (eqIntS_ev a1 (by omega)) (ev_if_neg (by simp) (ev_some _))))))))))))))

end Go.Proofs.YtienplkbbahfjaaDoor.Fms
