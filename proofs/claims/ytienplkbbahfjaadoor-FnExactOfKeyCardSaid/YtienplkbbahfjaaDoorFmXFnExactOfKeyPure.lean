/- What the law's functions give: the pure part. -/
import Derived.Test.YtienplkbbahfjaaDoorFmAid
import Derived.Test.YtienplkbbahfjaaDoorFmOpn
import Derived.Test.YtienplkbbahfjaaDoorFmXFnExactOfKeyEq
set_option autoImplicit true
set_option maxRecDepth 100000
set_option linter.unusedVariables false
set_option linter.unusedSimpArgs false
set_option linter.unnecessarySimpa false
set_option linter.unusedSectionVars false
open Go Go.Fm Go.RowKit
namespace Go.Proofs.YtienplkbbahfjaaDoor.Fms
/-! ### base -/
theorem l1In_ev (n lo hi : Int) : Ev (fun k => spec_l1In k n lo hi) (decide (lo ≤ n ∧ n ≤ hi)) := ev_congr (fun k => by rw [spec_l1In_eq]) (by by_cases h : lo ≤ n <;> simp [ev_some_iff, h])

/-! ### inn -/
theorem in_ev (n lo hi : Int) : Ev (fun k => impl_in k n lo hi) (decide (lo ≤ n ∧ n ≤ hi)) := ev_congr (fun k => by rw [impl_in_eq]) (by by_cases h : lo ≤ n <;> simp [ev_some_iff, h])

/-! ### keys -/
def keyByte (b : UInt8) : Bool := (decide (97 ≤ b.toNat) && decide (b.toNat ≤ 122)) || (decide (48 ≤ b.toNat) && decide (b.toNat ≤ 57))
def keyB (s : ByteArray) : Bool := decide (1 ≤ s.size ∧ s.size ≤ 8) && s.data.toList.all keyByte
def keyCut : List UInt8 := [97, 98, 99, 100, 101, 102, 103, 104, 105, 106, 107, 108, 109, 110, 111, 112, 113, 114, 115, 116, 117, 118, 119, 120, 121, 122, 48, 49, 50, 51, 52, 53, 54, 55, 56, 57]
theorem keyCut_has (b : UInt8) : keyCut.contains b = keyByte b := by
  have h : ∀ n : Fin 256, keyCut.contains (UInt8.ofNat n.val) = keyByte (UInt8.ofNat n.val) := by decide +kernel
  have := h ⟨b.toNat, b.toNat_lt⟩
  simpa using this
theorem drop_nil {α : Type} (p : α → Bool) (l : List α) : (l.dropWhile p).isEmpty = l.all p := by
  induction l with
  | nil => rfl
  | cons x l ih => cases h : p x <;> simp [List.dropWhile_cons, h, ih]
theorem all_drop {α : Type} (p : α → Bool) (l : List α) : (l.dropWhile p).all p = l.all p := by
  induction l with
  | nil => rfl
  | cons x l ih => cases h : p x <;> simp [List.dropWhile_cons, h, ih]
theorem trim_nil (l : List UInt8) : (Go.Lib.trimS l keyCut).isEmpty = l.all keyByte := by
  unfold Go.Lib.trimS Go.Lib.trimLeftS Go.Lib.trimRightS
  rw [drop_nil, List.all_reverse, all_drop, List.all_reverse]
  congr 1
  funext b
  exact keyCut_has b
theorem mk_nil (l : List UInt8) : decide ((⟨l.toArray⟩ : ByteArray) = ByteArray.mk (Array.mk [])) = l.isEmpty := by
  cases l with
  | nil => exact decide_eq_true rfl
  | cons x l => exact decide_eq_false (fun h => by have := congrArg (fun b : ByteArray => b.data.size) h; simp at this)
theorem isKey_ev (s : ByteArray) : Ev (fun k => impl_isKey k s) (keyB s) := by
  refine ev_congr (fun k => impl_isKey_eq k s) ?_
  have e : MapW.strings_Trim.f s ⟨#[97, 98, 99, 100, 101, 102, 103, 104, 105, 106, 107, 108, 109, 110, 111, 112, 113, 114, 115, 116, 117, 118, 119, 120, 121, 122, 48, 49, 50, 51, 52, 53, 54, 55, 56, 57]⟩ = if s.size ≤ 9223372036854775807 then some ⟨(Go.Lib.trimS s.data.toList keyCut).toArray⟩ else none := by
    unfold MapW.strings_Trim.f
    by_cases h : s.size ≤ 9223372036854775807
    · rw [if_pos ⟨h, by decide, by decide⟩, if_pos h]; rfl
    · rw [if_neg (fun hh => h hh.1), if_neg h]
  simp only [e]
  unfold keyB
  by_cases h1 : (1 : Int) ≤ (s.size : Int)
  · by_cases h2 : (s.size : Int) ≤ 8
    · have h3 : 1 ≤ s.size ∧ s.size ≤ 8 := by omega
      rw [if_pos h1, if_pos h2, if_pos (by omega)]
      simp only [Option.bind_some, mk_nil, trim_nil, h3, decide_true, and_self, Bool.true_and]
      exact ev_some _
    · have h3 : ¬ (1 ≤ s.size ∧ s.size ≤ 8) := by omega
      rw [if_pos h1, if_neg h2]
      simp only [h3, decide_false, Bool.false_and]
      exact ev_some _
  · have h3 : ¬ (1 ≤ s.size ∧ s.size ≤ 8) := by omega
    rw [if_neg h1]
    simp only [h3, decide_false, Bool.false_and]
    exact ev_some _
theorem l1Key_ev (s : ByteArray) (hs : s.size ≤ 140737488355328) : Ev (fun k => spec_l1Key k s) (keyB s) := by
  have hl := size_len s
  have key := drop_ind0 s.data.toList (fun n rest => Ev (fun k => spec_l1Key_h2 k s (n : Int)) (rest.all keyByte && decide (1 ≤ s.size ∧ s.size ≤ 8))) ?_ ?_
  · refine ev_congr (fun k => spec_l1Key_eq k s) ?_
    unfold keyB
    rw [Bool.and_comm]
    exact key
  · refine ev_shift ?_
    simp only [spec_l1Key_h2_eq, ev_ite_iff, ev_bind_iff (l1In_ev _ _ _), ev_some_iff]
    rw [← hl, if_neg (by omega)]
    simp only [List.all_nil, Bool.true_and]
    congr 1
    exact propext ⟨fun h => by omega, fun h => by omega⟩
  · intro n b rest hn hx hd ih
    refine ev_shift ?_
    simp only [spec_l1Key_h2_eq, bt_nat hx, wrap_nat (show n < 9223372036854775807 by omega), ev_ite_iff, ev_some_iff, ev_none_iff, List.all_cons]
    rw [if_pos (by omega), if_pos (by omega), if_pos (by omega)]
    cases hp : keyByte b with
    | true =>
      simp only [Bool.true_and]
      simp only [keyByte, Bool.or_eq_true, Bool.and_eq_true, decide_eq_true_eq] at hp
      split
      · split
        · exact ih
        · rw [if_pos (by omega), if_neg (by omega)]; exact ih
      · rw [if_pos (by omega), if_neg (by omega)]; exact ih
    | false =>
      simp only [keyByte, Bool.or_eq_false_iff, Bool.and_eq_false_iff, decide_eq_false_iff_not] at hp
      simp only [Bool.false_and]
      split
      · rw [if_neg (by omega)]
        split
        · rw [if_pos (by omega)]; trivial
        · trivial
      · split
        · rw [if_pos (by omega)]; trivial
        · trivial

/-! ### allloop -/
/-! a loop that asks the same of each -/
def allFrom {α : Type} (p : Nat → α → Bool) : Nat → List α → Bool
  | _, [] => true
  | n, x :: l => p n x && allFrom p (n + 1) l
theorem allFrom_iff {α : Type} {p : Nat → α → Bool} : ∀ {l : List α} {n : Nat}, allFrom p n l = true ↔ ∀ i x, l[i]? = some x → p (n + i) x = true
  | [], n => by simp [allFrom]
  | x :: l, n => by
    simp only [allFrom, Bool.and_eq_true, allFrom_iff (l := l)]
    constructor
    · rintro ⟨h1, h2⟩ i y hy
      cases i with
      | zero => simp at hy; subst hy; exact h1
      | succ i => rw [show n + (i + 1) = n + 1 + i by omega]; exact h2 i y (by simpa using hy)
    · intro h
      refine ⟨h 0 x (by simp), fun i y hy => ?_⟩
      rw [show n + 1 + i = n + (i + 1) by omega]
      exact h (i + 1) y (by simpa using hy)
theorem all_loop {α : Type} (xs : List α) (H : Nat → Int → Option Bool) (p : Nat → α → Bool) (r : Bool) (hend : Ev (fun k => H k (xs.length : Int)) r)
    (hstep : ∀ n x v, n < xs.length → xs[n]? = some x → Ev (fun k => H k ((n + 1 : Nat) : Int)) v → Ev (fun k => H (k + 1) (n : Int)) (p n x && v)) : Ev (fun k => H k 0) (allFrom p 0 xs && r) := by
  have := drop_ind0 xs (fun n rest => Ev (fun k => H k (n : Int)) (allFrom p n rest && r)) (by simpa [allFrom] using hend) (fun n x rest hn hx _ ih => ?_)
  · simpa using this
  · refine ev_shift ?_
    have h := hstep n x _ hn hx ih
    rw [← Bool.and_assoc] at h
    exact h

/-! ### value -/
def chB (b : UInt8) : Bool := decide (32 ≤ b.toNat) && (decide (b.toNat ≤ 126) && !decide (b.toNat = 59))
def valB (s : ByteArray) : Bool := allFrom (fun _ b => chB b) 0 s.data.toList && decide (s.size ≤ 20)
theorem isValue_ev (s : ByteArray) (hs : s.size ≤ 140737488355328) : Ev (fun k => impl_isValue k s) (valB s) := by
  have hl := size_len s
  refine ev_congr (fun k => impl_isValue_eq k s) ?_
  refine all_loop s.data.toList (fun k i => impl_isValue_h2 k s (s.size : Int) i) (fun _ b => chB b) (decide (s.size ≤ 20)) ?_ ?_
  · refine ev_shift ?_
    simp only [impl_isValue_h2_eq, ev_ite_iff, ev_some_iff]
    rw [← hl, if_neg (by omega)]
    congr 1
    exact propext ⟨fun h => by omega, fun h => by omega⟩
  · intro n b v hn hx hv
    simp only [impl_isValue_h2_eq, bt_nat hx, wrap_nat (show n < 9223372036854775807 by omega), ev_ite_iff, ev_some_iff, ev_none_iff]
    have e0 : (0 : Int) ≤ (n : Int) := by omega
    have e1 : (n : Int) < (s.size : Int) := by omega
    simp only [if_pos e0, if_pos e1]
    unfold chB
    by_cases h1 : (b.toNat : Int) < 32
    · rw [if_pos h1]; simp [show ¬ 32 ≤ b.toNat by omega]
    · rw [if_neg h1]
      by_cases h2 : 126 < (b.toNat : Int)
      · rw [if_pos h2]; simp [show ¬ b.toNat ≤ 126 by omega]
      · rw [if_neg h2]
        by_cases h3 : (b.toNat : Int) = 59
        · rw [if_pos h3]; simp [show b.toNat = 59 by omega]
        · rw [if_neg h3]
          simpa [show 32 ≤ b.toNat by omega, show b.toNat ≤ 126 by omega, show ¬ b.toNat = 59 by omega] using hv
theorem l1Value_ev (s : ByteArray) (hs : s.size ≤ 140737488355328) : Ev (fun k => spec_l1Value k s) (valB s) := by
  have hl := size_len s
  refine ev_congr (fun k => spec_l1Value_eq k s) ?_
  refine all_loop s.data.toList (fun k i => spec_l1Value_h2 k s i) (fun _ b => chB b) (decide (s.size ≤ 20)) ?_ ?_
  · refine ev_shift ?_
    simp only [spec_l1Value_h2_eq, ev_ite_iff, ev_some_iff]
    rw [← hl, if_neg (by omega)]
    congr 1
    exact propext ⟨fun h => by omega, fun h => by omega⟩
  · intro n b v hn hx hv
    simp only [spec_l1Value_h2_eq, bt_nat hx, wrap_nat (show n < 9223372036854775807 by omega), ev_ite_iff, ev_some_iff, ev_none_iff]
    have e0 : (0 : Int) ≤ (n : Int) := by omega
    have e1 : (n : Int) < (s.size : Int) := by omega
    simp only [if_pos e0, if_pos e1]
    unfold chB
    by_cases h1 : (b.toNat : Int) < 32
    · rw [if_pos h1]; simp [show ¬ 32 ≤ b.toNat by omega]
    · rw [if_neg h1]
      by_cases h2 : 126 < (b.toNat : Int)
      · rw [if_pos h2]; simp [show ¬ b.toNat ≤ 126 by omega]
      · rw [if_neg h2]
        by_cases h3 : (b.toNat : Int) = 59
        · rw [if_pos h3]; simp [show b.toNat = 59 by omega]
        · rw [if_neg h3]
          simpa [show 32 ≤ b.toNat by omega, show b.toNat ≤ 126 by omega, show ¬ b.toNat = 59 by omega] using hv

/-! ### sz2 -/
/-! two texts weigh what they weigh -/
theorem sz2 {F : Nat → Int → Option Int} {p q : ByteArray} (hp : p.size ≤ 140737488351232) (hq : q.size ≤ 140737488351232) (hs : ∀ k a, F k a = (if (wrap64 (a - (p.size : Int))) < 0 then some (-1) else (if (wrap64 ((wrap64 (a - (p.size : Int))) - (q.size : Int))) < 0 then some (-1) else some (wrap64 ((wrap64 (a - (p.size : Int))) - (q.size : Int))))))
    (a : Int) (h0 : 0 ≤ a) (h1 : a ≤ 1048576) : ∃ v, Ev (fun k => F k a) v ∧ v ≤ a ∧ (0 ≤ v → p.size ≤ 1048576 ∧ q.size ≤ 1048576) := by
  have w : wrap64 (a - (p.size : Int)) = a - p.size := wrap_of (by omega) (by omega)
  have w2 : wrap64 (a - (p.size : Int) - (q.size : Int)) = a - p.size - q.size := wrap_of (by omega) (by omega)
  by_cases h : a - (p.size : Int) < 0
  · exact ⟨-1, ev_congr (fun k => by rw [hs, w, if_pos h]) (ev_some _), by omega, fun h => by omega⟩
  · by_cases h' : a - (p.size : Int) - (q.size : Int) < 0
    · exact ⟨-1, ev_congr (fun k => by rw [hs, w, if_neg h, w2, if_pos h']) (ev_some _), by omega, fun h => by omega⟩
    · exact ⟨_, ev_congr (fun k => by rw [hs, w, if_neg h, w2, if_neg h']) (ev_some _), by omega, fun _ => by omega⟩

/-! ### mtext -/
theorem wrap_i64 {x : Int} (h0 : -9223372036854775808 ≤ x) (h1 : x ≤ 9223372036854775807) : IntKind.wrap .i64 x = x := by
  rw [← wrapK_eq]; unfold wrapK; rw [if_pos rfl]; exact wrap_of h0 h1
theorem catS_size0 (a b : ByteArray) : (catS a b).size = a.size + b.size := by
  show (catS a b).data.size = a.data.size + b.data.size
  simp [catS]
theorem mt_ex : ∀ (n : Nat) (acc : ByteArray), acc.size + n ≤ 1099511627776 → ∃ r, Ev (fun k => laws_markText_h4 k (n : Int) acc) r := by
  intro n
  induction n using Nat.strongRecOn with
  | ind n ih =>
    intro acc ha
    by_cases h0 : n = 0
    · subst h0
      refine ⟨catS (ByteArray.mk (Array.mk (List.cons 109 []))) acc, ev_last fun k => ?_⟩
      rw [laws_markText_h4_eq, if_neg (by omega), if_pos (by have : (ByteArray.mk (Array.mk (List.cons 109 []))).size = 1 := rfl; omega)]
    · have hd : Int.tdiv (n : Int) 10 = ((n / 10 : Nat) : Int) := by rw [Int.tdiv_eq_ediv_of_nonneg (by omega)]; omega
      obtain ⟨r, hr⟩ := ih (n / 10) (by omega) (catS (bytesOf [IntKind.wrap .u8 (wrap64 (48 + Int.tmod (n : Int) 10))]) acc) (by
        rw [catS_size0]
        have : (bytesOf [IntKind.wrap .u8 (wrap64 (48 + Int.tmod (n : Int) 10))]).size = 1 := rfl
        omega)
      refine ⟨r, ev_shift ?_⟩
      simp only [laws_markText_h4_eq, ev_ite_iff, hd, wrap_i64 (x := ((n / 10 : Nat) : Int)) (by omega) (by omega)]
      have : (bytesOf [IntKind.wrap .u8 (wrap64 (48 + Int.tmod (n : Int) 10))]).size = 1 := rfl
      rw [if_pos (by omega), if_pos (by omega)]
      exact hr
theorem mark_ex (n : Int) (hn : n ≤ 1073741824) : ∃ r, Ev (fun k => laws_markText k n) r := by
  by_cases h : n ≤ 0
  · exact ⟨_, ev_congr (fun k => laws_markText_eq k n) (ev_if_pos h (ev_some _))⟩
  · obtain ⟨r, hr⟩ := mt_ex n.toNat (ByteArray.mk (Array.mk [])) (by have : (ByteArray.mk (Array.mk [])).size = 0 := rfl; omega)
    refine ⟨r, ev_congr (fun k => laws_markText_eq k n) (ev_if_neg h ?_)⟩
    rw [show ((n.toNat : Nat) : Int) = n by omega] at hr
    exact hr
open Classical in
noncomputable def mtx (n : Int) : ByteArray := if h : ∃ r, Ev (fun k => laws_markText k n) r then Classical.choose h else ByteArray.mk (Array.mk [])
theorem mtx_ev (n : Int) (hn : n ≤ 1073741824) : Ev (fun k => laws_markText k n) (mtx n) := by
  have h := mark_ex n hn
  unfold mtx
  rw [dif_pos h]
  exact Classical.choose_spec h

/-! ### calls -/
abbrev CallT := Int × Bool × ByteArray × ByteArray × Int × Int
abbrev CallK : Kind := .struct (.pair (.int .i64) (.pair .bool (.pair .str (.pair .str (.pair (.int .i64) (.int .i64))))))
def szokCall (x : CallT) : Prop := x.2.2.1.size ≤ 140737488351232 ∧ x.2.2.2.1.size ≤ 140737488351232
def szBCall (x : CallT) : Prop := x.2.2.1.size ≤ 1048576 ∧ x.2.2.2.1.size ≤ 1048576
theorem szCall_ev (x : CallT) (hx : szokCall x) (a : Int) (h0 : 0 ≤ a) (ha : a ≤ 1048576) : ∃ v, Ev (fun k => laws_szCall k x a) v ∧ v ≤ a ∧ (0 ≤ v → szBCall x) := sz2 hx.1 hx.2 (fun k a => laws_szCall_eq k x a) a h0 ha
theorem toCall_ev (x : CallT) : Ev (fun k => laws_toCall k x) x := ev_congr (fun k => laws_toCall_eq k x) (ev_some x)
theorem eqCall_ev (x : CallT) : Ev (fun k => laws_eqCall k x x) true := ev_congr (fun k => laws_eqCall_eq k x x) (by simp [ev_some_iff])
theorem szCallS_ev (l) (hl : l.length ≤ 140737488355328) (hk : ∀ x ∈ l, szokCall x) (a : Int) (h0 : 0 ≤ a) (h1 : a ≤ 1048576) : ∃ v, Ev (fun k => laws_szCallS k l a) v ∧ v ≤ a ∧ (0 ≤ v → l.length ≤ 1048576 ∧ ∀ x ∈ l, szBCall x) :=
  sz_top (fun k l a => laws_szCallS_eq k l a) (sz_row (fun k l a i => laws_szCallS_h5_eq k l a i) (fun x hx a h0 h1 => szCall_ev x (hk x hx) a h0 h1) (by omega)) hl a h0 h1
theorem toCallS_ev (l) (hl : l.length ≤ 1048576) : Ev (fun k => laws_toCallS k l) l := by
  refine ev_congr (fun k => laws_toCallS_eq k l) ?_
  simp only [ev_ite_iff]
  rw [if_pos trivial, if_pos (by omega)]
  simpa using to_row (l := l) (cv := id) (z := _) (fun k l r i => laws_toCallS_h3_eq k l r i) (fun x _ => toCall_ev x) (by omega)
theorem eqCallS_ev (l) (hl : l.length ≤ 140737488355328) : Ev (fun k => laws_eqCallS k l l) true := by
  refine ev_congr (fun k => laws_eqCallS_eq k l l) ?_
  simp only [ev_ite_iff]
  rw [if_neg (by simp)]
  exact eq_row (l := l) (fun k a b i => laws_eqCallS_h4_eq k a b i) (fun x _ => eqCall_ev x) (by omega)
theorem mgetT_put : ∀ (m : List (Int × Bool)) (n x : Int), mgetT (.int .i64) .bool (mputT (.int .i64) .bool m n true) x = (decide (x = n) || mgetT (.int .i64) .bool m x)
  | [], n, x => by
    by_cases h : x = n <;> simp [mgetT, mputT, mfind, eqT, h, zeroT]
  | p :: m, n, x => by
    have ih := mgetT_put m n x
    simp only [mgetT, mputT, mfind, eqT] at ih ⊢
    by_cases h1 : n = p.1 <;> by_cases h2 : x = p.1 <;> by_cases h3 : x = n <;> simp_all [mfind, eqT]
def baseOk (c : CallT) : Bool := decide (0 ≤ c.1 ∧ c.1 ≤ 9) && (keyB c.2.2.1 && (valB c.2.2.2.1 && (!decide (c.2.2.2.2.1 < 0) && (!decide (c.2.2.2.2.2 ≤ c.2.2.2.2.1) && !decide (1000000 ≤ c.2.2.2.2.2)))))
def clashT (c o : CallT) : Bool := decide (o.2.2.2.2.1 = c.2.2.2.2.1) || (decide (o.2.2.2.2.1 = c.2.2.2.2.2) || (decide (o.2.2.2.2.2 = c.2.2.2.2.1) || decide (o.2.2.2.2.2 = c.2.2.2.2.2)))
def overT (c o : CallT) : Bool := decide (o.1 = c.1) && (decide (o.2.2.2.2.1 < c.2.2.2.2.2) && decide (c.2.2.2.2.1 < o.2.2.2.2.2))
def callsFrom (p : List CallT) : List CallT → Bool
  | [] => true
  | c :: r => baseOk c && (p.all (fun o => !clashT c o && !overT c o) && callsFrom (p ++ [c]) r)
def callsB (l : List CallT) : Bool := callsFrom [] l && decide (l.length ≤ 7)
theorem dec_seven (n : Nat) : decide ((n : Int) ≤ 7) = decide (n ≤ 7) := by by_cases h : n ≤ 7 <;> simp [h] <;> omega
theorem calls_loop {H : Nat → Int → Option Bool} (p : List CallT) (f : CallT → Bool) (r : Bool) (hend : Ev (fun k => H k (p.length : Int)) r)
    (hstep : ∀ n o v, n < p.length → p[n]? = some o → Ev (fun k => H k ((n + 1 : Nat) : Int)) v → Ev (fun k => H (k + 1) (n : Int)) (f o && v)) : Ev (fun k => H k 0) (p.all f && r) := by
  have := all_loop p H (fun _ o => f o) r hend hstep
  have e : ∀ (l : List CallT) (n : Nat), allFrom (fun _ o => f o) n l = l.all f := by
    intro l
    induction l with
    | nil => intro n; rfl
    | cons o l ih => intro n; simp only [allFrom, ih, List.all_cons]
  rw [e] at this
  exact this
theorem overlap_ev (o c : CallT) : Ev (fun k => spec_l7Overlap k o c) (decide (o.2.2.2.2.1 < c.2.2.2.2.2) && decide (c.2.2.2.2.1 < o.2.2.2.2.2)) := by
  refine ev_congr (fun k => spec_l7Overlap_eq k o c) ?_
  simp only [ev_ite_iff, ev_some_iff]
  by_cases h : o.2.2.2.2.1 < c.2.2.2.2.2 <;> simp [h]
theorem specCalls_ev (l : List CallT) (hl : l.length ≤ 1048576) (hk : ∀ x ∈ l, szBCall x) : Ev (fun k => spec_GoodCalls k l) (callsB l) := by
  refine ev_congr (fun k => spec_GoodCalls_eq k l) ?_
  refine drop_ind0 l (fun n rest => Ev (fun k => spec_GoodCalls_h2 k l l (l.length : Int) (n : Int)) (callsFrom (l.take n) rest && decide (l.length ≤ 7))) ?_ ?_
  · exact ev_last fun k => by rw [spec_GoodCalls_h2_eq, if_neg (by omega)]; simp [callsFrom, dec_seven]
  · intro n c rest hn hc _ ih
    rw [take_snoc hc] at ih
    have hz := hk c (List.mem_of_getElem? hc)
    have hlen : (l.take n).length = n := by simp; omega
    have hsl : (List.drop (Int.toNat 0) (List.take (Int.toNat (n : Int)) l)) = l.take n := by simp
    have inner : Ev (fun k => spec_GoodCalls_h7 k l c l (l.length : Int) (n : Int) (l.take n) ((l.take n).length : Int) 0) ((l.take n).all (fun o => !clashT c o && !overT c o) && (callsFrom (l.take n ++ [c]) rest && decide (l.length ≤ 7))) := by
      refine calls_loop (H := fun k i => spec_GoodCalls_h7 k l c l (l.length : Int) (n : Int) (l.take n) ((l.take n).length : Int) i) (l.take n) _ _ ?_ ?_
      · refine ev_shift ?_
        simp only [spec_GoodCalls_h7_eq, wrap_nat (show n < 9223372036854775807 by omega), ev_ite_iff]
        rw [if_neg (by omega)]
        exact ih
      · intro j o v hj ho H
        have q0 : (0 : Int) ≤ (j : Int) := by omega
        have q1 : (j : Int) < ((l.take n).length : Int) := by omega
        simp only [spec_GoodCalls_h7_eq, rdT_get (e := CallK) ho, wrap_nat (show j < 9223372036854775807 by omega), ev_bind_iff (overlap_ev o c), ev_ite_iff, ev_none_iff, ev_some_iff]
        rw [if_pos q1, if_pos q0, if_pos q1]
        unfold clashT overT
        by_cases a1 : o.2.2.2.2.1 = c.2.2.2.2.1
        · simp [a1]
        · by_cases a2 : o.2.2.2.2.1 = c.2.2.2.2.2
          · simp [a1, a2]
          · by_cases a3 : o.2.2.2.2.2 = c.2.2.2.2.1
            · simp [a1, a2, a3]
            · by_cases a4 : o.2.2.2.2.2 = c.2.2.2.2.2
              · simp [a1, a2, a3, a4]
              · by_cases a5 : o.1 = c.1
                · by_cases a6 : o.2.2.2.2.1 < c.2.2.2.2.2 ∧ c.2.2.2.2.1 < o.2.2.2.2.2
                  · simp [a1, a2, a3, a4, a5, a6]
                  · have e6 : (decide (o.2.2.2.2.1 < c.2.2.2.2.2) && decide (c.2.2.2.2.1 < o.2.2.2.2.2)) = false := by
                      rw [Bool.and_eq_false_iff, decide_eq_false_iff_not, decide_eq_false_iff_not]; omega
                    rw [if_neg a1, if_neg a2, if_neg a3, if_neg a4, if_pos a5, e6]
                    simpa [a1, a2, a3, a4] using H
                · simpa [a1, a2, a3, a4, a5] using H
    have q0 : (0 : Int) ≤ (n : Int) := by omega
    have q1 : (n : Int) < (l.length : Int) := by omega
    have q2 : (n : Int) ≤ (l.length : Int) := by omega
    refine ev_shift ?_
    simp only [spec_GoodCalls_h2_eq, rdT_get (e := CallK) hc, hsl, ev_bind_iff (l1In_ev _ _ _), ev_bind_iff (l1Key_ev c.2.2.1 (Nat.le_trans hz.1 (by omega))), ev_bind_iff (l1Value_ev c.2.2.2.1 (Nat.le_trans hz.2 (by omega))), ev_ite_iff, ev_none_iff, ev_some_iff]
    rw [if_pos q1, if_pos q0, if_pos q1]
    have hno : (callsFrom (l.take n) (c :: rest) && decide (l.length ≤ 7)) = (baseOk c && ((l.take n).all (fun o => !clashT c o && !overT c o) && (callsFrom (l.take n ++ [c]) rest && decide (l.length ≤ 7)))) := by simp only [callsFrom, Bool.and_assoc]
    rw [hno]
    unfold baseOk
    by_cases b0 : 0 ≤ c.1 ∧ c.1 ≤ 9
    · cases b1 : keyB c.2.2.1 with
      | false => simp [b0]
      | true =>
        cases b2 : valB c.2.2.2.1 with
        | false => simp [b0]
        | true =>
          by_cases b3 : c.2.2.2.2.1 < 0
          · simp [b0, b3]
          · by_cases b4 : c.2.2.2.2.2 ≤ c.2.2.2.2.1
            · simp [b0, b3, b4]
            · by_cases b5 : 1000000 ≤ c.2.2.2.2.2
              · simp [b0, b3, b4, b5]
              · simp only [b0, b3, b4, b5, and_self, decide_true, decide_false, Bool.not_true, Bool.not_false, Bool.false_eq_true, if_false, Bool.true_and]
                rw [if_pos q0, if_pos q2]
                exact inner
    · simp [b0]
theorem implCalls_ev (l : List CallT) (hl : l.length ≤ 1048576) (hk : ∀ x ∈ l, szBCall x) : Ev (fun k => impl_areCalls k l) (callsB l) := by
  refine ev_congr (fun k => impl_areCalls_eq k l) ?_
  have key := drop_ind0 l (fun n rest => ∀ m : List (Int × Bool), (∀ x, mgetT (.int .i64) .bool m x = (l.take n).any (fun o => decide (o.2.2.2.2.1 = x) || decide (o.2.2.2.2.2 = x))) → Ev (fun k => impl_areCalls_h3 k l m l (l.length : Int) (n : Int)) (callsFrom (l.take n) rest && decide (l.length ≤ 7))) ?_ ?_
  · exact key [] (by intro x; simp [mgetT, mfind, zeroT])
  · intro m _
    exact ev_last fun k => by rw [impl_areCalls_h3_eq, if_neg (by omega)]; simp [callsFrom, dec_seven]
  · intro n c rest hn hc _ ih m hm
    rw [take_snoc hc] at ih
    have hz := hk c (List.mem_of_getElem? hc)
    have hlen : (l.take n).length = n := by simp; omega
    have hsl : (List.drop (Int.toNat 0) (List.take (Int.toNat (n : Int)) l)) = l.take n := by simp
    have hm2 : ∀ x, mgetT (.int .i64) .bool (mputT (.int .i64) .bool (mputT (.int .i64) .bool m c.2.2.2.2.1 true) c.2.2.2.2.2 true) x = (l.take n ++ [c]).any (fun o => decide (o.2.2.2.2.1 = x) || decide (o.2.2.2.2.2 = x)) := by
      intro x
      rw [mgetT_put, mgetT_put, hm x, List.any_append]
      simp only [List.any_cons, List.any_nil, Bool.or_false]
      have e4 : decide (x = c.2.2.2.2.1) = decide (c.2.2.2.2.1 = x) := decide_eq_decide.2 ⟨Eq.symm, Eq.symm⟩
      have e5 : decide (x = c.2.2.2.2.2) = decide (c.2.2.2.2.2 = x) := decide_eq_decide.2 ⟨Eq.symm, Eq.symm⟩
      rw [e4, e5]
      generalize ((l.take n).any fun o => decide (o.2.2.2.2.1 = x) || decide (o.2.2.2.2.2 = x)) = u
      cases u <;> cases decide (c.2.2.2.2.1 = x) <;> cases decide (c.2.2.2.2.2 = x) <;> rfl
    have inner : Ev (fun k => impl_areCalls_h10 k l (mputT (.int .i64) .bool (mputT (.int .i64) .bool m c.2.2.2.2.1 true) c.2.2.2.2.2 true) c l (l.length : Int) (n : Int) (l.take n) ((l.take n).length : Int) 0) ((l.take n).all (fun o => !overT c o) && (callsFrom (l.take n ++ [c]) rest && decide (l.length ≤ 7))) := by
      refine calls_loop (H := fun k i => impl_areCalls_h10 k l (mputT (.int .i64) .bool (mputT (.int .i64) .bool m c.2.2.2.2.1 true) c.2.2.2.2.2 true) c l (l.length : Int) (n : Int) (l.take n) ((l.take n).length : Int) i) (l.take n) _ _ ?_ ?_
      · refine ev_shift ?_
        simp only [impl_areCalls_h10_eq, wrap_nat (show n < 9223372036854775807 by omega), ev_ite_iff]
        rw [if_neg (by omega)]
        exact ih _ hm2
      · intro j o v hj ho H
        have q0 : (0 : Int) ≤ (j : Int) := by omega
        have q1 : (j : Int) < ((l.take n).length : Int) := by omega
        simp only [impl_areCalls_h10_eq, rdT_get (e := CallK) ho, wrap_nat (show j < 9223372036854775807 by omega), ev_ite_iff, ev_none_iff, ev_some_iff]
        rw [if_pos q1, if_pos q0, if_pos q1]
        unfold overT
        by_cases a5 : o.1 = c.1
        · by_cases a6 : o.2.2.2.2.1 < c.2.2.2.2.2
          · by_cases a7 : c.2.2.2.2.1 < o.2.2.2.2.2
            · simp [a5, a6, a7]
            · simpa [a5, a6, a7] using H
          · simpa [a5, a6] using H
        · simpa [a5, Ne.symm a5] using H
    have clash : (l.take n).any (fun o => clashT c o) = (mgetT (.int .i64) .bool m c.2.2.2.2.1 || mgetT (.int .i64) .bool m c.2.2.2.2.2) := by
      rw [hm, hm]
      generalize l.take n = p
      induction p with
      | nil => rfl
      | cons o p ih2 =>
        simp only [List.any_cons]
        rw [ih2]
        simp only [clashT]
        generalize (p.any fun o => decide (o.2.2.2.2.1 = c.2.2.2.2.1) || decide (o.2.2.2.2.2 = c.2.2.2.2.1)) = u
        generalize (p.any fun o => decide (o.2.2.2.2.1 = c.2.2.2.2.2) || decide (o.2.2.2.2.2 = c.2.2.2.2.2)) = v
        cases u <;> cases v <;> cases decide (o.2.2.2.2.1 = c.2.2.2.2.1) <;> cases decide (o.2.2.2.2.1 = c.2.2.2.2.2) <;> cases decide (o.2.2.2.2.2 = c.2.2.2.2.1) <;> cases decide (o.2.2.2.2.2 = c.2.2.2.2.2) <;> rfl
    have split2 : (l.take n).all (fun o => !clashT c o && !overT c o) = (!((l.take n).any (fun o => clashT c o)) && (l.take n).all (fun o => !overT c o)) := by
      generalize l.take n = p
      induction p with
      | nil => rfl
      | cons o p ih2 =>
        simp only [List.all_cons, List.any_cons, ih2]
        cases clashT c o <;> cases overT c o <;> simp
    have q0 : (0 : Int) ≤ (n : Int) := by omega
    have q1 : (n : Int) < (l.length : Int) := by omega
    have q2 : (n : Int) ≤ (l.length : Int) := by omega
    refine ev_shift ?_
    simp only [impl_areCalls_h3_eq, rdT_get (e := CallK) hc, hsl, ev_bind_iff (in_ev _ _ _), ev_bind_iff (isKey_ev c.2.2.1), ev_bind_iff (isValue_ev c.2.2.2.1 (Nat.le_trans hz.2 (by omega))), ev_ite_iff, ev_none_iff, ev_some_iff]
    rw [if_pos q1, if_pos q0, if_pos q1]
    have hno : (callsFrom (l.take n) (c :: rest) && decide (l.length ≤ 7)) = (baseOk c && ((!(mgetT (.int .i64) .bool m c.2.2.2.2.1 || mgetT (.int .i64) .bool m c.2.2.2.2.2)) && ((l.take n).all (fun o => !overT c o) && (callsFrom (l.take n ++ [c]) rest && decide (l.length ≤ 7))))) := by
      rw [← clash]
      simp only [callsFrom, split2, Bool.and_assoc]
    rw [hno]
    unfold baseOk
    by_cases b0 : 0 ≤ c.1 ∧ c.1 ≤ 9
    · cases b1 : keyB c.2.2.1 with
      | false => simp [b0]
      | true =>
        cases b2 : valB c.2.2.2.1 with
        | false => simp [b0]
        | true =>
          by_cases b3 : c.2.2.2.2.1 < 0
          · simp [b0, b3]
          · by_cases b4 : c.2.2.2.2.2 ≤ c.2.2.2.2.1
            · simp [b0, b3, b4]
            · by_cases b5 : 1000000 ≤ c.2.2.2.2.2
              · simp [b0, b3, b4, b5]
              · simp only [b0, b3, b4, b5, and_self, decide_true, decide_false, Bool.not_true, Bool.not_false, Bool.false_eq_true, if_false, Bool.true_and]
                cases b6 : mgetT (.int .i64) .bool m c.2.2.2.2.1 with
                | true => simp
                | false =>
                  cases b7 : mgetT (.int .i64) .bool m c.2.2.2.2.2 with
                  | true => simp
                  | false =>
                    simp only [Bool.false_eq_true, if_false, Bool.or_false, Bool.not_false, Bool.true_and]
                    rw [if_pos q0, if_pos q2]
                    exact inner
    · simp [b0]
theorem calls_len {l : List CallT} (h : callsB l = true) : l.length ≤ 7 := by
  unfold callsB at h
  simp only [Bool.and_eq_true, decide_eq_true_eq] at h
  exact h.2

/-! ### markcall -/
noncomputable def emCall (m : Int) : CallT := (m, decide (Int.tmod (m + 1) 3 = 0), mtx (m + 2), mtx (m + 3), m + 4, m + 5)
theorem upCall {xs : List CallT} {n : Nat} {x : CallT} (hx : xs[n]? = some x) (v0 : Int) (v1 : Bool) (v2 v3 : ByteArray) (v4 v5 : Int) :
    upAt CallK [5] (.int .i64) v5 (upAt CallK [4] (.int .i64) v4 (upAt CallK [3] .str v3 (upAt CallK [2] .str v2 (upAt CallK [1] .bool v1 (upAt CallK [0] (.int .i64) v0 xs (n : Int)) (n : Int)) (n : Int)) (n : Int)) (n : Int)) (n : Int)
      = xs.set n (v0, v1, v2, v3, v4, v5) := by
  have hn : n < xs.length := (List.getElem?_eq_some_iff.1 hx).1
  rw [upAt_get (e := CallK) (k := .int .i64) (w := (v0, x.2)) hx rfl, upAt_set (e := CallK) (k := .bool) (w := (v0, v1, x.2.2)) hn rfl, upAt_set (e := CallK) (k := .str) (w := (v0, v1, v2, x.2.2.2)) hn rfl, upAt_set (e := CallK) (k := .str) (w := (v0, v1, v2, v3, x.2.2.2.2)) hn rfl, upAt_set (e := CallK) (k := .int .i64) (w := (v0, v1, v2, v3, v4, x.2.2.2.2.2)) hn rfl, upAt_set (e := CallK) (k := .int .i64) (w := (v0, v1, v2, v3, v4, v5)) hn rfl]
theorem upLenCall (p : List Nat) (k : Kind) (y : k.T) (l : List CallT) (i : Int) : @List.length CallT (upAt CallK p k y l i) = @List.length CallT l := upAt_len (e := CallK)
theorem incs6 (c : Int) (h0 : 0 ≤ c) (h1 : c ≤ 1073741824) : wrap64 (c + 1) = c + 1 ∧ wrap64 (c + 1 + 1) = c + 2 ∧ wrap64 (c + 2 + 1) = c + 3 ∧ wrap64 (c + 3 + 1) = c + 4 ∧ wrap64 (c + 4 + 1) = c + 5 ∧ wrap64 (c + 5 + 1) = c + 6 := by
  refine ⟨?_, ?_, ?_, ?_, ?_, ?_⟩ <;> (rw [wrap_of (by omega) (by omega)]; try omega)
theorem markCallS_ev (l : List CallT) (m : Int) (h0 : 0 ≤ m) (hm : m + 6 * l.length ≤ 1073741824) : Ev (fun k => laws_markCallS k l m) (mkList emCall m 6 l.length, m + 6 * (l.length : Int)) := by
  refine ev_congr (fun k => laws_markCallS_eq k l m) ?_
  refine mark_loop (fun k l c i => laws_markCallS_h2 k l c i) emCall m 6 l.length (fun k xs c hx => ?_) (fun n xs r hn hx H => ?_) l rfl
  · rw [laws_markCallS_h2_eq, if_neg (by omega)]
  · obtain ⟨e1, e2, e3, e4, e5, e6⟩ := incs6 (m + 6 * (n : Int)) (by omega) (by omega)
    have hnx : n < xs.length := by omega
    have hg : xs[n]? = some xs[n] := List.getElem?_eq_getElem hnx
    generalize xs[n] = x at hg
    have d1 : (n : Int) < (l.length : Int) := by omega
    have d2 : (n : Int) < (xs.length : Int) := by omega
    have d3 : (0 : Int) ≤ (n : Int) := by omega
    have e10 : m + 6 * (n : Int) + 6 = m + 6 * ((n + 1 : Nat) : Int) := by omega
    refine ev_shift ?_
    simp only [laws_markCallS_h2_eq, ev_ite_iff, e1, e2, e3, e4, e5, e6, wrap_nat (show n < 9223372036854775807 by omega), upLenCall, if_pos d2, if_pos d3, ev_bind_iff (mtx_ev (m + 6 * (n : Int) + 2) (by omega)), ev_bind_iff (mtx_ev (m + 6 * (n : Int) + 3) (by omega)), upCall hg, e10]
    exact H
theorem heldCallS_ev (m : Int) (N : Nat) (h0 : 0 ≤ m) (hm : m + 6 * N ≤ 1073741824) : Ev (fun k => laws_heldCallS k (mkList emCall m 6 N) m) (m + 6 * (N : Int)) := by
  refine ev_congr (fun k => laws_heldCallS_eq k _ m) ?_
  have hl := mkList_len emCall m 6 N
  refine held_loop (fun k c i => laws_heldCallS_h2 k (mkList emCall m 6 N) c i) emCall m 6 N (fun k c => ?_) (fun n r hn hx H => ?_)
  · rw [laws_heldCallS_h2_eq, if_neg (by omega)]
  · obtain ⟨e1, e2, e3, e4, e5, e6⟩ := incs6 (m + 6 * (n : Int)) (by omega) (by omega)
    have d1 : (n : Int) < ((mkList emCall m 6 N).length : Int) := by omega
    have d3 : (0 : Int) ≤ (n : Int) := by omega
    have e10 : m + 6 * (n : Int) + 6 = m + 6 * ((n + 1 : Nat) : Int) := by omega
    refine ev_shift ?_
    simp only [laws_heldCallS_h2_eq, ev_ite_iff, ev_some_iff, ev_none_iff, e1, e2, e3, e4, e5, e6, wrap_nat (show n < 9223372036854775807 by omega), rdT_get (e := CallK) hx, if_pos d1, if_pos d3, ev_bind_iff (mtx_ev (m + 6 * (n : Int) + 2) (by omega)), ev_bind_iff (mtx_ev (m + 6 * (n : Int) + 3) (by omega)), emCall, e10]
    simpa using H

/-! ### ofkey -/
def keepB (key : ByteArray) (c : CallT) : Bool := decide (c.2.2.1 = key)
theorem specOf_ev (l : List CallT) (key : ByteArray) (hl : l.length ≤ 7) : Ev (fun k => spec_OfKey_h5 k key [] l (l.length : Int) 0) (l.filter (keepB key), true) := by
  have h := drop_ind0 l (fun n rest => ∀ out : List CallT, out.length ≤ n → Ev (fun k => spec_OfKey_h5 k key out l (l.length : Int) (n : Int)) (out ++ rest.filter (keepB key), true)) ?_ ?_
  · simpa using h [] (by simp)
  · intro out _
    exact ev_last fun k => by rw [spec_OfKey_h5_eq, if_neg (by omega)]; simp
  · intro n c rest hn hc _ ih out ho
    have q0 : (0 : Int) ≤ (n : Int) := by omega
    have q1 : (n : Int) < (l.length : Int) := by omega
    have hap : out.length + (List.cons c ([] : List CallT)).length ≤ 2199023255552 := by simp only [List.length_cons, List.length_nil]; omega
    refine ev_shift ?_
    simp only [spec_OfKey_h5_eq, rdT_get (e := CallK) hc, wrap_nat (show n < 9223372036854775807 by omega), ev_ite_iff, ev_none_iff]
    rw [if_pos q1, if_pos q0, if_pos q1]
    by_cases h : c.2.2.1 = key
    · have hk : keepB key c = true := decide_eq_true h
      rw [if_pos h, if_pos hap, List.filter_cons_of_pos hk]
      have := ih (out ++ [c]) (by simp only [List.length_append, List.length_cons, List.length_nil]; omega)
      simpa using this
    · have hk : ¬ keepB key c = true := fun hh => h (of_decide_eq_true hh)
      rw [if_neg h, List.filter_cons_of_neg hk]
      exact ih out (by omega)
theorem del_ev (c : CallT) (key : ByteArray) : Ev (fun k => impl_OfKey_1 k c key) (!keepB key c) := by
  refine ev_congr (fun k => impl_OfKey_1_eq k c key) ?_
  rw [ev_some_iff]
  unfold keepB
  by_cases h : c.2.2.1 = key <;> simp [h]
theorem idx_ev (l : List CallT) (key : ByteArray) (hl : l.length ≤ 1048576) : Ev (fun k => slices_IndexFunc k l (key, ())) (idxFrom (fun c => !keepB key c) 0 l) := by
  refine ev_congr (fun k => slices_IndexFunc_eq k l _) ?_
  refine drop_ind0 l (fun n rest => Ev (fun k => slices_IndexFunc_h2 k l (key, ()) (l.length : Int) (n : Int)) (idxFrom (fun c => !keepB key c) n rest)) ?_ ?_
  · exact ev_last fun k => by rw [slices_IndexFunc_h2_eq, if_neg (by omega)]; rfl
  · intro n c rest hn hc _ ih
    have q0 : (0 : Int) ≤ (n : Int) := by omega
    have q1 : (n : Int) < (l.length : Int) := by omega
    refine ev_shift ?_
    simp only [slices_IndexFunc_h2_eq, ev_bind_iff (del_ev c key), rdT_get (e := CallK) hc, wrap_nat (show n < 9223372036854775807 by omega), ev_ite_iff, ev_none_iff, ev_some_iff, idxFrom]
    rw [if_pos q1, if_pos q0, if_pos q1]
    by_cases h1 : keepB key c = true
    · rw [if_neg (by simp [h1]), if_neg (by simp [h1])]
      exact ih
    · rw [if_pos (by simp [h1]), if_pos (by simp [h1])]
theorem idx_spec {α : Type} (p : α → Bool) : ∀ (l : List α) (n : Nat), (idxFrom p n l = -1 ∧ ∀ x ∈ l, p x = false) ∨ ∃ (i : Nat) (x : α), idxFrom p n l = ((n + i : Nat) : Int) ∧ l[i]? = some x ∧ p x = true ∧ ∀ y ∈ l.take i, p y = false
  | [], n => .inl ⟨rfl, fun x h => by cases h⟩
  | a :: l, n => by
    unfold idxFrom
    by_cases h : p a = true
    · rw [if_pos h]
      exact .inr ⟨0, a, rfl, rfl, h, fun y hy => by simp at hy⟩
    · rw [if_neg h]
      have h' : p a = false := by simpa using h
      rcases idx_spec p l (n + 1) with ⟨h1, h2⟩ | ⟨i, x, h1, h2, h3, h4⟩
      · exact .inl ⟨h1, fun x hx => by
          rcases List.mem_cons.1 hx with rfl | hx
          · exact h'
          · exact h2 x hx⟩
      · refine .inr ⟨i + 1, x, by rw [h1]; omega, by simpa using h2, h3, fun y hy => ?_⟩
        rw [List.take_succ_cons] at hy
        rcases List.mem_cons.1 hy with rfl | hy
        · exact h'
        · exact h4 y hy
theorem keep_all {l : List CallT} {key : ByteArray} (h : ∀ x ∈ l, (!keepB key x) = false) : l.filter (keepB key) = l := List.filter_eq_self.2 fun x hx => by simpa using h x hx
theorem delete_ev (l : List CallT) (key : ByteArray) (hl : l.length ≤ 7) : Ev (fun k => slices_DeleteFunc k l (key, ())) (l.filter (keepB key)) := by
  have hi := idx_ev l key (by omega)
  refine ev_congr (fun k => slices_DeleteFunc_eq k l _) ?_
  rcases idx_spec (fun c => !keepB key c) l 0 with ⟨h1, h2⟩ | ⟨i, x, h1, h2, h3, h4⟩
  · rw [h1] at hi
    rw [keep_all h2]
    exact ev_bind hi (ev_if_pos rfl (ev_some _))
  · rw [h1, Nat.zero_add] at hi
    have hil : i < l.length := (List.getElem?_eq_some_iff.1 h2).1
    refine ev_bind hi (ev_if_neg (by omega) ?_)
    rw [wrap_nat (by omega)]
    have main : ∀ d j : Nat, j + d = l.length → ∀ (L : List CallT) (a : Nat), L.length = l.length → a ≤ j → L.take a = (l.take j).filter (keepB key) → L.drop j = l.drop j → Ev (fun k => slices_DeleteFunc_h5 k L (key, ()) (a : Int) (j : Int)) (l.filter (keepB key)) := by
      intro d
      induction d with
      | zero =>
        intro j hj L a hL ha ht hd
        have hjl : j = l.length := by omega
        subst hjl
        rw [List.take_length] at ht
        have s0 : (0 : Int) ≤ (a : Int) := by omega
        have s1 : (a : Int) ≤ (L.length : Int) := by omega
        refine ev_last fun k => ?_
        rw [slices_DeleteFunc_h5_eq, if_neg (by omega), if_pos s0, if_pos s1, if_pos s0, if_pos (by simp only [List.length_append, List.length_take, List.length_replicate, List.length_drop]; omega)]
        congr 1
        rw [Int.toNat_natCast, List.take_append_of_le_length (by rw [List.length_take]; omega), List.take_take, Nat.min_self]
        exact ht
      | succ d ih =>
        intro j hj L a hL ha ht hd
        have hjl : j < l.length := by omega
        have hx : l[j]? = some l[j] := List.getElem?_eq_getElem hjl
        generalize l[j] = c at hx
        have hLx : L[j]? = some c := by
          have e := congrArg (fun z : List CallT => z[0]?) hd
          simp only [List.getElem?_drop, Nat.add_zero] at e
          rw [e]; exact hx
        have hds : L.drop (j + 1) = l.drop (j + 1) := by
          have e := congrArg (List.drop 1) hd
          simpa [List.drop_drop, Nat.add_comm] using e
        have q0 : (0 : Int) ≤ (j : Int) := by omega
        have q1 : (j : Int) < (L.length : Int) := by omega
        refine ev_shift ?_
        simp only [slices_DeleteFunc_h5_eq, rdT_get (e := CallK) hLx, ev_bind_iff (del_ev c key), wrap_nat (show j < 9223372036854775807 by omega), wrap_nat (show a < 9223372036854775807 by omega), ev_ite_iff, ev_none_iff]
        rw [if_pos q1, if_pos q0, if_pos q1]
        by_cases hk : keepB key c = true
        · have s0 : (0 : Int) ≤ (a : Int) := by omega
          have s1 : (a : Int) < (L.length : Int) := by omega
          rw [if_pos (by simp [hk]), if_pos s0, if_pos s1, Int.toNat_natCast]
          refine ih (j + 1) (by omega) (L.set a c) (a + 1) (by rw [List.length_set]; exact hL) (by omega) ?_ ?_
          · have hget : (L.set a c)[a]? = some c := List.getElem?_set_self (by omega)
            rw [take_snoc hget, take_snoc hx, List.filter_append, List.filter_cons_of_pos hk, List.filter_nil, ← ht]
            congr 1
            exact List.take_set_of_le (Nat.le_refl _)
          · rw [List.drop_set_of_lt (by omega)]
            exact hds
        · rw [if_neg (by simp [hk])]
          refine ih (j + 1) (by omega) L a hL (by omega) ?_ hds
          rw [take_snoc hx, List.filter_append, List.filter_cons_of_neg hk, List.filter_nil, List.append_nil]
          exact ht
    refine main (l.length - (i + 1)) (i + 1) (by omega) l i rfl (by omega) ?_ rfl
    have hkx : keepB key x = false := by simpa using h3
    rw [take_snoc h2, List.filter_append, List.filter_cons_of_neg (by simp [hkx]), List.filter_nil, List.append_nil, keep_all h4]
theorem law (a0 : List CallT) (a1 : ByteArray) (h0 : okT (.slice CallK) a0) (h1 : okT .str a1) : ∃ k, laws_FnExactOfKey k a0 a1 = some true := by
  apply ev_fuel
  refine ev_congr (fun k => laws_FnExactOfKey_eq k a0 a1) ?_
  by_cases hl1 : 1048576 < a1.size
  · exact ev_if_pos (by omega) (ev_some _)
  refine ev_if_neg (by omega) ?_
  obtain ⟨v, hv, _, hB⟩ := szCallS_ev a0 (Nat.le_trans h0.1 (by omega)) (fun x hx => ⟨(h0.2 x hx).2.2.1, (h0.2 x hx).2.2.2.1⟩) 1048576 (by omega) (by omega)
  refine ev_bind hv ?_
  by_cases hneg : v < 0
  · exact ev_if_pos hneg (ev_some _)
  refine ev_if_neg hneg ?_
  have hs := hB (by omega)
  have to := toCallS_ev a0 hs.1
  have main : ∃ r : List CallT × Bool, Ev (fun k => spec_OfKey k a0 a1) r ∧ Ev (fun k => impl_OfKey k a0 a1) r ∧ r.1.length ≤ 7 := by
    have s1 := specCalls_ev a0 hs.1 hs.2
    have i1 := implCalls_ev a0 hs.1 hs.2
    cases hg : callsB a0 with
    | false =>
      rw [hg] at s1 i1
      exact ⟨([], false), ev_congr (fun k => spec_OfKey_eq k a0 a1) (ev_bind s1 (ev_if_pos (by simp) (ev_some _))), ev_congr (fun k => impl_OfKey_eq k a0 a1) (ev_bind i1 (ev_if_pos (by simp) (ev_some _))), by simp⟩
    | true =>
      rw [hg] at s1 i1
      have h7 := calls_len hg
      refine ⟨(a0.filter (keepB a1), true), ev_congr (fun k => spec_OfKey_eq k a0 a1) (ev_bind s1 (ev_if_neg (by simp) (specOf_ev a0 a1 h7))), ev_congr (fun k => impl_OfKey_eq k a0 a1) (ev_bind i1 (ev_if_neg (by simp) (ev_if_pos (by omega) ?_))), Nat.le_trans (List.length_filter_le _ _) h7⟩
      rw [List.nil_append]
      exact ev_bind (delete_ev a0 a1 h7) (ev_some _)
  obtain ⟨r, b1, b2, hr⟩ := main
  have eq := eqCallS_ev r.1 (by omega)
  have mx := markCallS_ev a0 1 (by omega) (by omega)
  have mk := markCallS_ev r.1 1 (by omega) (by omega)
  have hd := heldCallS_ev 1 r.1.length (by omega) (by omega)
  exact ev_bind to (ev_bind b1 (ev_bind to (ev_bind b2 (ev_bind eq (ev_if_neg (by simp) (ev_if_neg (by simp) (ev_bind to (ev_bind (eqCallS_ev a0 (by omega)) (ev_if_neg (by simp) (ev_bind mx (ev_if_neg (by omega) (ev_bind eq (ev_if_neg (by simp) (ev_if_neg (by simp) (ev_bind mk (ev_bind hd (ev_if_neg (by omega) (ev_if_neg (by simp) (ev_bind to (ev_bind b2 (ev_bind eq (ev_if_neg (by simp) (ev_if_neg (by simp) (ev_bind hd (ev_if_neg (by omega) (ev_if_neg (by simp) (ev_some _)))))))))))))))))))))))))))

end Go.Proofs.YtienplkbbahfjaaDoor.Fms
