/- What the law's functions give: the pure part. -/
import Derived.Test.YtolcbchdijdolaaGreatDoorFmAid
import Derived.Test.YtolcbchdijdolaaGreatDoorFmOpn
import Derived.Test.YtolcbchdijdolaaGreatDoorFmXFnExactReplayOrderEq
set_option autoImplicit true
set_option maxRecDepth 100000
set_option linter.unusedVariables false
set_option linter.unusedSimpArgs false
set_option linter.unnecessarySimpa false
set_option linter.unusedSectionVars false
open Go Go.Fm Go.RowKit
namespace Go.Proofs.YtolcbchdijdolaaGreatDoor.Fms
/-! ### base -/
theorem l1In_ev (n lo hi : Int) : Ev (fun k => spec_l1In k n lo hi) (decide (lo ≤ n ∧ n ≤ hi)) := ev_congr (fun k => by rw [spec_l1In_eq]) (by by_cases h : lo ≤ n <;> simp [ev_some_iff, h])

/-! ### inn -/
theorem in_ev (n lo hi : Int) : Ev (fun k => impl_in k n lo hi) (decide (lo ≤ n ∧ n ≤ hi)) := ev_congr (fun k => by rw [impl_in_eq]) (by by_cases h : lo ≤ n <;> simp [ev_some_iff, h])

/-! ### keys -/
def keyByte (b : UInt8) : Bool := (decide (97 ≤ b.toNat) && decide (b.toNat ≤ 122)) || (decide (48 ≤ b.toNat) && decide (b.toNat ≤ 57))
def keyB (s : ByteArray) : Bool := decide (1 ≤ s.size ∧ s.size ≤ 8) && s.data.toList.all keyByte
def keyCut : List UInt8 := [97, 98, 99, 100, 101, 102, 103, 104, 105, 106, 107, 108, 109, 110, 111, 112, 113, 114, 115, 116, 117, 118, 119, 120, 121, 122, 48, 49, 50, 51, 52, 53, 54, 55, 56, 57]
theorem keyCut_has (b : UInt8) : keyCut.contains b = keyByte b := by
  have h : ∀ n : Fin 256, keyCut.contains (UInt8.ofNat n.val) = keyByte (UInt8.ofNat n.val) := by decide +kernel
  have := h ⟨b.toNat, b.toNat_lt⟩
  simpa using this
theorem drop_nil {α : Type} (p : α → Bool) (l : List α) : (l.dropWhile p).isEmpty = l.all p := by
  induction l with
  | nil => rfl
  | cons x l ih => cases h : p x <;> simp [List.dropWhile_cons, h, ih]
theorem all_drop {α : Type} (p : α → Bool) (l : List α) : (l.dropWhile p).all p = l.all p := by
  induction l with
  | nil => rfl
  | cons x l ih => cases h : p x <;> simp [List.dropWhile_cons, h, ih]
theorem trim_nil (l : List UInt8) : (Go.Lib.trimS l keyCut).isEmpty = l.all keyByte := by
  unfold Go.Lib.trimS Go.Lib.trimLeftS Go.Lib.trimRightS
  rw [drop_nil, List.all_reverse, all_drop, List.all_reverse]
  congr 1
  funext b
  exact keyCut_has b
theorem mk_nil (l : List UInt8) : decide ((⟨l.toArray⟩ : ByteArray) = ByteArray.mk (Array.mk [])) = l.isEmpty := by
  cases l with
  | nil => exact decide_eq_true rfl
  | cons x l => exact decide_eq_false (fun h => by have := congrArg (fun b : ByteArray => b.data.size) h; simp at this)
theorem isKey_ev (s : ByteArray) : Ev (fun k => impl_isKey k s) (keyB s) := by
  refine ev_congr (fun k => impl_isKey_eq k s) ?_
  have e : MapW.strings_Trim.f s ⟨#[97, 98, 99, 100, 101, 102, 103, 104, 105, 106, 107, 108, 109, 110, 111, 112, 113, 114, 115, 116, 117, 118, 119, 120, 121, 122, 48, 49, 50, 51, 52, 53, 54, 55, 56, 57]⟩ = if s.size ≤ 9223372036854775807 then some ⟨(Go.Lib.trimS s.data.toList keyCut).toArray⟩ else none := by
    unfold MapW.strings_Trim.f
    by_cases h : s.size ≤ 9223372036854775807
    · rw [if_pos ⟨h, by decide, by decide⟩, if_pos h]; rfl
    · rw [if_neg (fun hh => h hh.1), if_neg h]
  simp only [e]
  unfold keyB
  by_cases h1 : (1 : Int) ≤ (s.size : Int)
  · by_cases h2 : (s.size : Int) ≤ 8
    · have h3 : 1 ≤ s.size ∧ s.size ≤ 8 := by omega
      rw [if_pos h1, if_pos h2, if_pos (by omega)]
      simp only [Option.bind_some, mk_nil, trim_nil, h3, decide_true, and_self, Bool.true_and]
      exact ev_some _
    · have h3 : ¬ (1 ≤ s.size ∧ s.size ≤ 8) := by omega
      rw [if_pos h1, if_neg h2]
      simp only [h3, decide_false, Bool.false_and]
      exact ev_some _
  · have h3 : ¬ (1 ≤ s.size ∧ s.size ≤ 8) := by omega
    rw [if_neg h1]
    simp only [h3, decide_false, Bool.false_and]
    exact ev_some _
theorem l1Key_ev (s : ByteArray) (hs : s.size ≤ 140737488355328) : Ev (fun k => spec_l1Key k s) (keyB s) := by
  have hl := size_len s
  have key := drop_ind0 s.data.toList (fun n rest => Ev (fun k => spec_l1Key_h2 k s (n : Int)) (rest.all keyByte && decide (1 ≤ s.size ∧ s.size ≤ 8))) ?_ ?_
  · refine ev_congr (fun k => spec_l1Key_eq k s) ?_
    unfold keyB
    rw [Bool.and_comm]
    exact key
  · refine ev_shift ?_
    simp only [spec_l1Key_h2_eq, ev_ite_iff, ev_bind_iff (l1In_ev _ _ _), ev_some_iff]
    rw [← hl, if_neg (by omega)]
    simp only [List.all_nil, Bool.true_and]
    congr 1
    exact propext ⟨fun h => by omega, fun h => by omega⟩
  · intro n b rest hn hx hd ih
    refine ev_shift ?_
    simp only [spec_l1Key_h2_eq, bt_nat hx, wrap_nat (show n < 9223372036854775807 by omega), ev_ite_iff, ev_some_iff, ev_none_iff, List.all_cons]
    rw [if_pos (by omega), if_pos (by omega), if_pos (by omega)]
    cases hp : keyByte b with
    | true =>
      simp only [Bool.true_and]
      simp only [keyByte, Bool.or_eq_true, Bool.and_eq_true, decide_eq_true_eq] at hp
      split
      · split
        · exact ih
        · rw [if_pos (by omega), if_neg (by omega)]; exact ih
      · rw [if_pos (by omega), if_neg (by omega)]; exact ih
    | false =>
      simp only [keyByte, Bool.or_eq_false_iff, Bool.and_eq_false_iff, decide_eq_false_iff_not] at hp
      simp only [Bool.false_and]
      split
      · rw [if_neg (by omega)]
        split
        · rw [if_pos (by omega)]; trivial
        · trivial
      · split
        · rw [if_pos (by omega)]; trivial
        · trivial

/-! ### bsearch -/
/-! texts in their order -/
theorem bl_irrefl : ∀ x : List UInt8, Op.bytesLess x x = false
  | [] => rfl
  | a :: x => by simp [Op.bytesLess, bl_irrefl x]
theorem bl_trans : ∀ {x y z : List UInt8}, Op.bytesLess x y = true → Op.bytesLess y z = true → Op.bytesLess x z = true
  | x, y, [], _, h => by cases y <;> simp [Op.bytesLess] at h
  | x, [], c :: z, h, _ => by cases x <;> simp [Op.bytesLess] at h
  | [], b :: y, c :: z, _, _ => rfl
  | a :: x, b :: y, c :: z, h1, h2 => by
    simp only [Op.bytesLess, Bool.or_eq_true, Bool.and_eq_true, decide_eq_true_eq, beq_iff_eq] at h1 h2 ⊢
    rcases h1 with h1 | ⟨rfl, h1⟩
    · rcases h2 with h2 | ⟨rfl, h2⟩
      · exact .inl (UInt8.lt_trans h1 h2)
      · exact .inl h1
    · rcases h2 with h2 | ⟨rfl, h2⟩
      · exact .inl h2
      · exact .inr ⟨rfl, bl_trans h1 h2⟩
theorem cmp_facts : ∀ (x y : List UInt8), (Go.Lib.compareBytes x y < 0 ↔ Op.bytesLess x y = true) ∧ (Go.Lib.compareBytes x y = 0 ↔ x = y)
  | [], [] => by simp [Go.Lib.compareBytes, Op.bytesLess]
  | [], _ :: _ => by simp [Go.Lib.compareBytes, Op.bytesLess]
  | _ :: _, [] => by simp [Go.Lib.compareBytes, Op.bytesLess]
  | a :: x, b :: y => by
    obtain ⟨h1, h2⟩ := cmp_facts x y
    simp only [Go.Lib.compareBytes, Op.bytesLess]
    by_cases hab : a < b
    · have hne : a ≠ b := fun e => by subst e; exact absurd hab (UInt8.lt_irrefl _)
      simp [hab, hne]
    · by_cases hba : b < a
      · have hne : a ≠ b := fun e => by subst e; exact absurd hba (UInt8.lt_irrefl _)
        simp [hab, hba, hne]
      · have he : a = b := UInt8.le_antisymm (UInt8.not_lt.1 hba) (UInt8.not_lt.1 hab)
        subst he
        simp only [hab, if_false, h1, h2, decide_false, Bool.false_or, beq_self_eq_true, Bool.true_and, List.cons.injEq, true_and, and_self]
theorem cmp_neg (a b : ByteArray) : gvCompare a b < 0 ↔ lessS a b = true := by
  unfold gvCompare lessS
  rw [ByteArray.toList_eq, ByteArray.toList_eq]
  exact (cmp_facts _ _).1
theorem cmp_zero (a b : ByteArray) : gvCompare a b = 0 ↔ a = b := by
  unfold gvCompare
  rw [(cmp_facts _ _).2]
  exact ⟨fun h => Go.WideShapes.bytes_inj h, fun h => by rw [h]⟩
theorem lessS_trans {a b c : ByteArray} (h : lessS a b = true) (h' : lessS b c = true) : lessS a c = true := bl_trans h h'
theorem lessS_irrefl (a : ByteArray) : lessS a a = false := bl_irrefl _
/-! search -/
theorem mid_eq {a b : Nat} (h : a ≤ b) (hb : b ≤ 140737488355328) : (Go.IntKind.wrap Go.IntKind.i64 (Int.fdiv (Go.IntKind.wrap Go.IntKind.u64 (wrap64 ((a : Int) + (b : Int)))) (Int.instNatPow.1 2 (Min.min (Int.toNat 1) 64)))) = (((a + b) / 2 : Nat) : Int) := by
  have w1 : wrap64 ((a : Int) + (b : Int)) = ((a + b : Nat) : Int) := by rw [wrap_of (by omega) (by omega)]; omega
  have w2 : (Int.instNatPow.1 2 (Min.min (Int.toNat 1) 64) : Int) = 2 := by decide
  rw [w1, w2, wraps_u64 _ (by omega) (by omega)]
  have w3 : Int.fdiv ((a + b : Nat) : Int) 2 = (((a + b) / 2 : Nat) : Int) := by
    rw [Int.fdiv_eq_ediv_of_nonneg _ (by omega)]; omega
  rw [w3]
  have : ∀ n : Nat, n < 9223372036854775807 → Go.IntKind.wrap Go.IntKind.i64 (n : Int) = (n : Int) := fun n hn => by
    simp only [IntKind.wrap, IntKind.signed, IntKind.bits]
    simp
    omega
  exact this _ (by omega)
section
variable {e : Kind} {H : Nat → Int → Int → Option (Int × Bool)} {F : Nat → e.T → Option Int} {cv : e.T → Int} {l : List e.T}
theorem bs_ev (hl : l.length ≤ 140737488355328) (hF : ∀ x, Ev (fun k => F k x) (cv x))
    (hs : ∀ k lo hi, H (k + 1) lo hi = (if lo < hi then (if 0 ≤ (Go.IntKind.wrap Go.IntKind.i64 (Int.fdiv (Go.IntKind.wrap Go.IntKind.u64 (wrap64 (lo + hi))) (Int.instNatPow.1 2 (Min.min (Int.toNat 1) 64)))) then (if (Go.IntKind.wrap Go.IntKind.i64 (Int.fdiv (Go.IntKind.wrap Go.IntKind.u64 (wrap64 (lo + hi))) (Int.instNatPow.1 2 (Min.min (Int.toNat 1) 64)))) < (l.length : Int) then
      ((F k (rdT e l (Go.IntKind.wrap Go.IntKind.i64 (Int.fdiv (Go.IntKind.wrap Go.IntKind.u64 (wrap64 (lo + hi))) (Int.instNatPow.1 2 (Min.min (Int.toNat 1) 64)))))).bind fun t => if t < 0 then H k (wrap64 ((Go.IntKind.wrap Go.IntKind.i64 (Int.fdiv (Go.IntKind.wrap Go.IntKind.u64 (wrap64 (lo + hi))) (Int.instNatPow.1 2 (Min.min (Int.toNat 1) 64)))) + 1)) hi else H k lo (Go.IntKind.wrap Go.IntKind.i64 (Int.fdiv (Go.IntKind.wrap Go.IntKind.u64 (wrap64 (lo + hi))) (Int.instNatPow.1 2 (Min.min (Int.toNat 1) 64))))) else none) else none)
      else (if lo < (l.length : Int) then (if 0 ≤ lo then (if lo < (l.length : Int) then ((F k (rdT e l lo)).bind fun t => some (lo, decide (t = 0))) else none) else none) else some (lo, false)))) :
    ∃ (i : Nat) (f : Bool), Ev (fun k => H k 0 (l.length : Int)) ((i : Int), f) ∧ i ≤ l.length ∧ (∀ x, 0 < i → l[i - 1]? = some x → cv x < 0) ∧ (∀ x, l[i]? = some x → ¬ cv x < 0) ∧ (f = true ↔ ∃ x, l[i]? = some x ∧ cv x = 0) := by
  have key : ∀ d lo hi : Nat, hi - lo = d → lo ≤ hi → hi ≤ l.length → (∀ x, 0 < lo → l[lo - 1]? = some x → cv x < 0) → (∀ x, l[hi]? = some x → ¬ cv x < 0) →
      ∃ (i : Nat) (f : Bool), Ev (fun k => H k (lo : Int) (hi : Int)) ((i : Int), f) ∧ i ≤ l.length ∧ (∀ x, 0 < i → l[i - 1]? = some x → cv x < 0) ∧ (∀ x, l[i]? = some x → ¬ cv x < 0) ∧ (f = true ↔ ∃ x, l[i]? = some x ∧ cv x = 0) := by
    intro d
    induction d using Nat.strongRecOn with
    | ind d ih =>
      intro lo hi hd hle hhi h1 h2
      by_cases hlt : lo < hi
      · have hm : (lo + hi) / 2 < l.length := by omega
        have hx : l[(lo + hi) / 2]? = some l[(lo + hi) / 2] := List.getElem?_eq_getElem hm
        generalize l[(lo + hi) / 2] = x at hx
        have hmid := mid_eq hle (by omega)
        by_cases hc : cv x < 0
        · obtain ⟨i, f, r1, r2⟩ := ih (hi - ((lo + hi) / 2 + 1)) (by omega) ((lo + hi) / 2 + 1) hi rfl (by omega) hhi (fun y _ hy => by
            rw [show (lo + hi) / 2 + 1 - 1 = (lo + hi) / 2 from rfl, hx] at hy; cases hy; exact hc) h2
          refine ⟨i, f, ev_shift ?_, r2⟩
          simp only [hs, hmid, rdT_get hx, ev_bind_iff (hF x), ev_ite_iff, ev_none_iff, wrap_nat (show (lo + hi) / 2 < 9223372036854775807 by omega)]
          rw [if_pos (by omega), if_pos (by omega), if_pos (by omega), if_pos hc]
          exact r1
        · obtain ⟨i, f, r1, r2⟩ := ih ((lo + hi) / 2 - lo) (by omega) lo ((lo + hi) / 2) rfl (by omega) (by omega) h1 (fun y hy => by rw [hx] at hy; cases hy; exact hc)
          refine ⟨i, f, ev_shift ?_, r2⟩
          simp only [hs, hmid, rdT_get hx, ev_bind_iff (hF x), ev_ite_iff, ev_none_iff]
          rw [if_pos (by omega), if_pos (by omega), if_pos (by omega), if_neg hc]
          exact r1
      · have he : lo = hi := by omega
        subst he
        by_cases hlo : lo < l.length
        · have hx : l[lo]? = some l[lo] := List.getElem?_eq_getElem hlo
          generalize l[lo] = x at hx
          refine ⟨lo, decide (cv x = 0), ev_shift ?_, by omega, h1, h2, ?_⟩
          · simp only [hs, rdT_get hx, ev_bind_iff (hF x), ev_ite_iff, ev_none_iff, ev_some_iff]
            rw [if_neg (by omega), if_pos (by omega), if_pos (by omega), if_pos (by omega)]
            trivial
          · simp [hx]
        · refine ⟨lo, false, ev_shift ?_, by omega, h1, h2, ?_⟩
          · simp only [hs, ev_ite_iff, ev_none_iff, ev_some_iff]
            rw [if_neg (by omega), if_neg (by omega)]
            trivial
          · have : l[lo]? = none := List.getElem?_eq_none (by omega)
            simp [this]
  have := key l.length 0 l.length (by omega) (by omega) (by omega) (fun x h => absurd h (by omega)) (fun x h => by rw [List.getElem?_eq_none (by omega)] at h; cases h)
  simpa using this
/-- in a row in strict order, what is searched is where it is -/
def sortedBy (key : e.T → ByteArray) (l : List e.T) : Prop := ∀ i x y, l[i]? = some x → l[i + 1]? = some y → lessS (key x) (key y) = true
theorem sorted_lt {key : e.T → ByteArray} (h : sortedBy key l) : ∀ d i x y, l[i]? = some x → l[i + d + 1]? = some y → lessS (key x) (key y) = true := by
  intro d
  induction d with
  | zero => intro i x y hx hy; exact h i x y hx hy
  | succ d ih =>
    intro i x y hx hy
    have hlt : i + (d + 1) + 1 < l.length := by
      rcases Nat.lt_or_ge (i + (d + 1) + 1) l.length with h | h
      · exact h
      · rw [List.getElem?_eq_none h] at hy; cases hy
    have hz : l[i + d + 1]? = some l[i + d + 1] := List.getElem?_eq_getElem (by omega)
    exact lessS_trans (ih i x _ hx hz) (h (i + d + 1) _ y hz hy)
theorem bs_sorted {key : e.T → ByteArray} {s : ByteArray} (hsrt : sortedBy key l) {i : Nat} (h1 : ∀ x, 0 < i → l[i - 1]? = some x → gvCompare (key x) s < 0) (h2 : ∀ x, l[i]? = some x → ¬ gvCompare (key x) s < 0) (hi : i ≤ l.length)
    {j : Nat} {y : e.T} (hy : l[j]? = some y) (hk : key y = s) : j = i := by
  have hj : j < l.length := by
    rcases Nat.lt_or_ge j l.length with h | h
    · exact h
    · rw [List.getElem?_eq_none h] at hy; cases hy
  rcases Nat.lt_trichotomy j i with h | h | h
  · exfalso
    have hp : l[i - 1]? = some l[i - 1] := List.getElem?_eq_getElem (by omega)
    have hneg := h1 _ (by omega) hp
    rw [cmp_neg] at hneg
    by_cases he : j = i - 1
    · subst he
      rw [hp] at hy; cases hy
      rw [hk, lessS_irrefl] at hneg; cases hneg
    · have := sorted_lt hsrt (i - 1 - j - 1) j y _ hy (by rw [show j + (i - 1 - j - 1) + 1 = i - 1 by omega]; exact hp)
      rw [hk] at this
      have := lessS_trans this hneg
      rw [lessS_irrefl] at this; cases this
  · exact h
  · exfalso
    have hp : l[i]? = some l[i] := List.getElem?_eq_getElem (by omega)
    have hnn := h2 _ hp
    rw [cmp_neg] at hnn
    have := sorted_lt hsrt (j - i - 1) i _ y hp (by rw [show i + (j - i - 1) + 1 = j by omega]; exact hy)
    rw [hk] at this
    exact hnn this
end

/-! ### has -/
def hasB (l : List Int) (n : Int) : Bool := l.any fun x => decide (x = n)
theorem hasB_iff {l : List Int} {n : Int} : hasB l n = true ↔ n ∈ l := by simp [hasB]
theorem l1Has_ev (l : List Int) (n : Int) (hl : l.length ≤ 140737488355328) : Ev (fun k => spec_l1Has k l n) (hasB l n) := by
  have key := drop_ind0 l (fun j rest => Ev (fun k => spec_l1Has_h2 k n l (l.length : Int) (j : Int)) (hasB rest n)) ?_ ?_
  · exact ev_congr (fun k => spec_l1Has_eq k l n) key
  · exact ev_last fun k => by rw [spec_l1Has_h2_eq, if_neg (by omega)]; rfl
  · intro j x rest hj hx hd ih
    refine ev_shift ?_
    simp only [spec_l1Has_h2_eq, rdT_get (e := .int .i64) hx, wrap_nat (show j < 9223372036854775807 by omega), ev_ite_iff, ev_none_iff, ev_some_iff]
    rw [if_pos (by omega), if_pos (by omega), if_pos (by omega)]
    unfold hasB
    rw [List.any_cons]
    by_cases h : x = n
    · rw [if_pos h]; simp [h]
    · rw [if_neg h]; simpa [h, hasB] using ih

/-! ### cellty -/
abbrev CellT := ByteArray × ByteArray
abbrev CellK : Kind := .struct (.pair .str .str)

/-! ### allloop -/
/-! a loop that asks the same of each -/
def allFrom {α : Type} (p : Nat → α → Bool) : Nat → List α → Bool
  | _, [] => true
  | n, x :: l => p n x && allFrom p (n + 1) l
theorem allFrom_iff {α : Type} {p : Nat → α → Bool} : ∀ {l : List α} {n : Nat}, allFrom p n l = true ↔ ∀ i x, l[i]? = some x → p (n + i) x = true
  | [], n => by simp [allFrom]
  | x :: l, n => by
    simp only [allFrom, Bool.and_eq_true, allFrom_iff (l := l)]
    constructor
    · rintro ⟨h1, h2⟩ i y hy
      cases i with
      | zero => simp at hy; subst hy; exact h1
      | succ i => rw [show n + (i + 1) = n + 1 + i by omega]; exact h2 i y (by simpa using hy)
    · intro h
      refine ⟨h 0 x (by simp), fun i y hy => ?_⟩
      rw [show n + 1 + i = n + (i + 1) by omega]
      exact h (i + 1) y (by simpa using hy)
theorem all_loop {α : Type} (xs : List α) (H : Nat → Int → Option Bool) (p : Nat → α → Bool) (r : Bool) (hend : Ev (fun k => H k (xs.length : Int)) r)
    (hstep : ∀ n x v, n < xs.length → xs[n]? = some x → Ev (fun k => H k ((n + 1 : Nat) : Int)) v → Ev (fun k => H (k + 1) (n : Int)) (p n x && v)) : Ev (fun k => H k 0) (allFrom p 0 xs && r) := by
  have := drop_ind0 xs (fun n rest => Ev (fun k => H k (n : Int)) (allFrom p n rest && r)) (by simpa [allFrom] using hend) (fun n x rest hn hx _ ih => ?_)
  · simpa using this
  · refine ev_shift ?_
    have h := hstep n x _ hn hx ih
    rw [← Bool.and_assoc] at h
    exact h

/-! ### value -/
def chB (b : UInt8) : Bool := decide (32 ≤ b.toNat) && (decide (b.toNat ≤ 126) && !decide (b.toNat = 59))
def valB (s : ByteArray) : Bool := allFrom (fun _ b => chB b) 0 s.data.toList && decide (s.size ≤ 20)
theorem isValue_ev (s : ByteArray) (hs : s.size ≤ 140737488355328) : Ev (fun k => impl_isValue k s) (valB s) := by
  have hl := size_len s
  refine ev_congr (fun k => impl_isValue_eq k s) ?_
  refine all_loop s.data.toList (fun k i => impl_isValue_h2 k s (s.size : Int) i) (fun _ b => chB b) (decide (s.size ≤ 20)) ?_ ?_
  · refine ev_shift ?_
    simp only [impl_isValue_h2_eq, ev_ite_iff, ev_some_iff]
    rw [← hl, if_neg (by omega)]
    congr 1
    exact propext ⟨fun h => by omega, fun h => by omega⟩
  · intro n b v hn hx hv
    simp only [impl_isValue_h2_eq, bt_nat hx, wrap_nat (show n < 9223372036854775807 by omega), ev_ite_iff, ev_some_iff, ev_none_iff]
    have e0 : (0 : Int) ≤ (n : Int) := by omega
    have e1 : (n : Int) < (s.size : Int) := by omega
    simp only [if_pos e0, if_pos e1]
    unfold chB
    by_cases h1 : (b.toNat : Int) < 32
    · rw [if_pos h1]; simp [show ¬ 32 ≤ b.toNat by omega]
    · rw [if_neg h1]
      by_cases h2 : 126 < (b.toNat : Int)
      · rw [if_pos h2]; simp [show ¬ b.toNat ≤ 126 by omega]
      · rw [if_neg h2]
        by_cases h3 : (b.toNat : Int) = 59
        · rw [if_pos h3]; simp [show b.toNat = 59 by omega]
        · rw [if_neg h3]
          simpa [show 32 ≤ b.toNat by omega, show b.toNat ≤ 126 by omega, show ¬ b.toNat = 59 by omega] using hv
theorem l1Value_ev (s : ByteArray) (hs : s.size ≤ 140737488355328) : Ev (fun k => spec_l1Value k s) (valB s) := by
  have hl := size_len s
  refine ev_congr (fun k => spec_l1Value_eq k s) ?_
  refine all_loop s.data.toList (fun k i => spec_l1Value_h2 k s i) (fun _ b => chB b) (decide (s.size ≤ 20)) ?_ ?_
  · refine ev_shift ?_
    simp only [spec_l1Value_h2_eq, ev_ite_iff, ev_some_iff]
    rw [← hl, if_neg (by omega)]
    congr 1
    exact propext ⟨fun h => by omega, fun h => by omega⟩
  · intro n b v hn hx hv
    simp only [spec_l1Value_h2_eq, bt_nat hx, wrap_nat (show n < 9223372036854775807 by omega), ev_ite_iff, ev_some_iff, ev_none_iff]
    have e0 : (0 : Int) ≤ (n : Int) := by omega
    have e1 : (n : Int) < (s.size : Int) := by omega
    simp only [if_pos e0, if_pos e1]
    unfold chB
    by_cases h1 : (b.toNat : Int) < 32
    · rw [if_pos h1]; simp [show ¬ 32 ≤ b.toNat by omega]
    · rw [if_neg h1]
      by_cases h2 : 126 < (b.toNat : Int)
      · rw [if_pos h2]; simp [show ¬ b.toNat ≤ 126 by omega]
      · rw [if_neg h2]
        by_cases h3 : (b.toNat : Int) = 59
        · rw [if_pos h3]; simp [show b.toNat = 59 by omega]
        · rw [if_neg h3]
          simpa [show 32 ≤ b.toNat by omega, show b.toNat ≤ 126 by omega, show ¬ b.toNat = 59 by omega] using hv

/-! ### tid0 -/
abbrev TidT := Int × Int × Bool
abbrev TidK : Kind := .struct (.pair (.int .i64) (.pair (.int .i64) .bool))
def tidB (t : TidT) : Bool := decide (0 ≤ t.1 ∧ t.1 ≤ 1048575) && decide (0 ≤ t.2.1 ∧ t.2.1 ≤ 16777215)
theorem isTid_ev (t : TidT) : Ev (fun k => impl_isTid k t) (tidB t) := by
  refine ev_congr (fun k => impl_isTid_eq k t) ?_
  simp only [ev_bind_iff (in_ev _ _ _), ev_ite_iff, ev_some_iff, tidB]
  by_cases h : 0 ≤ t.1 ∧ t.1 ≤ 1048575 <;> simp [h]
theorem l1Tid_ev (t : TidT) : Ev (fun k => spec_l1Tid k t) (tidB t) := by
  refine ev_congr (fun k => spec_l1Tid_eq k t) ?_
  simp only [ev_bind_iff (l1In_ev _ _ _), ev_ite_iff, ev_some_iff, tidB]
  by_cases h : 0 ≤ t.1 ∧ t.1 ≤ 1048575 <;> simp [h]

/-! ### tid -/
theorem toTid_ev (x : TidT) : Ev (fun k => laws_toTid k x) x := ev_congr (fun k => laws_toTid_eq k x) (ev_some x)

/-! ### tideq -/
theorem eqTid_ev (x : TidT) : Ev (fun k => laws_eqTid k x x) true := ev_congr (fun k => laws_eqTid_eq k x x) (by simp [ev_some_iff])

/-! ### int -/
theorem toIntS_ev (l) (hl : l.length ≤ 1048576) : Ev (fun k => laws_toIntS k l) l := by
  refine ev_congr (fun k => laws_toIntS_eq k l) ?_
  simp only [ev_ite_iff]
  rw [if_pos trivial, if_pos (by omega)]
  simpa using to_row0 (e := .int .i64) (l := l) (z := _) (fun k l r i => laws_toIntS_h3_eq k l r i) (by omega)
theorem eqIntS_ev (l) (hl : l.length ≤ 140737488355328) : Ev (fun k => laws_eqIntS k l l) true := by
  refine ev_congr (fun k => laws_eqIntS_eq k l l) ?_
  simp only [ev_ite_iff]
  rw [if_neg (by simp)]
  exact eq_row0 (e := .int .i64) (l := l) (c := fun x y => x = y) (fun k a b i => laws_eqIntS_h4_eq k a b i) (fun x => rfl) (by omega)

/-! ### sz2 -/
/-! two texts weigh what they weigh -/
theorem sz2 {F : Nat → Int → Option Int} {p q : ByteArray} (hp : p.size ≤ 140737488351232) (hq : q.size ≤ 140737488351232) (hs : ∀ k a, F k a = (if (wrap64 (a - (p.size : Int))) < 0 then some (-1) else (if (wrap64 ((wrap64 (a - (p.size : Int))) - (q.size : Int))) < 0 then some (-1) else some (wrap64 ((wrap64 (a - (p.size : Int))) - (q.size : Int))))))
    (a : Int) (h0 : 0 ≤ a) (h1 : a ≤ 1048576) : ∃ v, Ev (fun k => F k a) v ∧ v ≤ a ∧ (0 ≤ v → p.size ≤ 1048576 ∧ q.size ≤ 1048576) := by
  have w : wrap64 (a - (p.size : Int)) = a - p.size := wrap_of (by omega) (by omega)
  have w2 : wrap64 (a - (p.size : Int) - (q.size : Int)) = a - p.size - q.size := wrap_of (by omega) (by omega)
  by_cases h : a - (p.size : Int) < 0
  · exact ⟨-1, ev_congr (fun k => by rw [hs, w, if_pos h]) (ev_some _), by omega, fun h => by omega⟩
  · by_cases h' : a - (p.size : Int) - (q.size : Int) < 0
    · exact ⟨-1, ev_congr (fun k => by rw [hs, w, if_neg h, w2, if_pos h']) (ev_some _), by omega, fun h => by omega⟩
    · exact ⟨_, ev_congr (fun k => by rw [hs, w, if_neg h, w2, if_neg h']) (ev_some _), by omega, fun _ => by omega⟩

/-! ### store -/
abbrev RecT := ByteArray × ByteArray × TidT × Int
abbrev RecK : Kind := .struct (.pair .str (.pair .str (.pair TidK (.int .i64))))
abbrev LookT := ByteArray × ByteArray × TidT
abbrev LookK : Kind := .struct (.pair .str (.pair .str TidK))
abbrev RunT := Int × Int × List LookT × List CellT × TidT
abbrev RunK : Kind := .struct (.pair (.int .i64) (.pair (.int .i64) (.pair (.slice LookK) (.pair (.slice CellK) TidK))))
abbrev StoreT := Int × List RecT × List RunT × List Int
abbrev StoreK : Kind := .struct (.pair (.int .i64) (.pair (.slice RecK) (.pair (.slice RunK) (.slice (.int .i64)))))
def szokRecord (x : RecT) : Prop := x.1.size ≤ 140737488351232 ∧ x.2.1.size ≤ 140737488351232
def szBRecord (x : RecT) : Prop := x.1.size ≤ 1048576 ∧ x.2.1.size ≤ 1048576
theorem szRecord_ev (x : RecT) (hx : szokRecord x) (a : Int) (h0 : 0 ≤ a) (h1 : a ≤ 1048576) : ∃ v, Ev (fun k => laws_szRecord k x a) v ∧ v ≤ a ∧ (0 ≤ v → szBRecord x) := sz2 hx.1 hx.2 (fun k a => laws_szRecord_eq k x a) a h0 h1
theorem toRecord_ev (x : RecT) : Ev (fun k => laws_toRecord k x) x := ev_congr (fun k => laws_toRecord_eq k x) (ev_bind (toTid_ev _) (ev_some x))
theorem eqRecord_ev (x : RecT) : Ev (fun k => laws_eqRecord k x x) true := ev_congr (fun k => laws_eqRecord_eq k x x) (ev_if_neg (by simp) (ev_if_neg (by simp) (ev_bind (eqTid_ev _) (ev_if_neg (by simp) (ev_if_neg (by simp) (ev_some _))))))
theorem szRecordS_ev (l) (hl : l.length ≤ 140737488355328) (hk : ∀ x ∈ l, szokRecord x) (a : Int) (h0 : 0 ≤ a) (h1 : a ≤ 1048576) : ∃ v, Ev (fun k => laws_szRecordS k l a) v ∧ v ≤ a ∧ (0 ≤ v → l.length ≤ 1048576 ∧ ∀ x ∈ l, szBRecord x) :=
  sz_top (fun k l a => laws_szRecordS_eq k l a) (sz_row (fun k l a i => laws_szRecordS_h5_eq k l a i) (fun x hx a h0 h1 => szRecord_ev x (hk x hx) a h0 h1) (by omega)) hl a h0 h1
theorem toRecordS_ev (l) (hl : l.length ≤ 1048576) : Ev (fun k => laws_toRecordS k l) l := by
  refine ev_congr (fun k => laws_toRecordS_eq k l) ?_
  simp only [ev_ite_iff]
  rw [if_pos trivial, if_pos (by omega)]
  simpa using to_row (l := l) (cv := id) (z := _) (fun k l r i => laws_toRecordS_h3_eq k l r i) (fun x _ => toRecord_ev x) (by omega)
theorem eqRecordS_ev (l) (hl : l.length ≤ 140737488355328) : Ev (fun k => laws_eqRecordS k l l) true := by
  refine ev_congr (fun k => laws_eqRecordS_eq k l l) ?_
  simp only [ev_ite_iff]
  rw [if_neg (by simp)]
  exact eq_row (l := l) (fun k a b i => laws_eqRecordS_h4_eq k a b i) (fun x _ => eqRecord_ev x) (by omega)
def szokLook (x : LookT) : Prop := x.1.size ≤ 140737488351232 ∧ x.2.1.size ≤ 140737488351232
def szBLook (x : LookT) : Prop := x.1.size ≤ 1048576 ∧ x.2.1.size ≤ 1048576
theorem szLook_ev (x : LookT) (hx : szokLook x) (a : Int) (h0 : 0 ≤ a) (h1 : a ≤ 1048576) : ∃ v, Ev (fun k => laws_szLook k x a) v ∧ v ≤ a ∧ (0 ≤ v → szBLook x) := sz2 hx.1 hx.2 (fun k a => laws_szLook_eq k x a) a h0 h1
theorem toLook_ev (x : LookT) : Ev (fun k => laws_toLook k x) x := ev_congr (fun k => laws_toLook_eq k x) (ev_bind (toTid_ev _) (ev_some x))
theorem eqLook_ev (x : LookT) : Ev (fun k => laws_eqLook k x x) true := ev_congr (fun k => laws_eqLook_eq k x x) (ev_if_neg (by simp) (ev_if_neg (by simp) (ev_bind (eqTid_ev _) (ev_if_neg (by simp) (ev_some _)))))
theorem szLookS_ev (l) (hl : l.length ≤ 140737488355328) (hk : ∀ x ∈ l, szokLook x) (a : Int) (h0 : 0 ≤ a) (h1 : a ≤ 1048576) : ∃ v, Ev (fun k => laws_szLookS k l a) v ∧ v ≤ a ∧ (0 ≤ v → l.length ≤ 1048576 ∧ ∀ x ∈ l, szBLook x) :=
  sz_top (fun k l a => laws_szLookS_eq k l a) (sz_row (fun k l a i => laws_szLookS_h5_eq k l a i) (fun x hx a h0 h1 => szLook_ev x (hk x hx) a h0 h1) (by omega)) hl a h0 h1
theorem toLookS_ev (l) (hl : l.length ≤ 1048576) : Ev (fun k => laws_toLookS k l) l := by
  refine ev_congr (fun k => laws_toLookS_eq k l) ?_
  simp only [ev_ite_iff]
  rw [if_pos trivial, if_pos (by omega)]
  simpa using to_row (l := l) (cv := id) (z := _) (fun k l r i => laws_toLookS_h3_eq k l r i) (fun x _ => toLook_ev x) (by omega)
theorem eqLookS_ev (l) (hl : l.length ≤ 140737488355328) : Ev (fun k => laws_eqLookS k l l) true := by
  refine ev_congr (fun k => laws_eqLookS_eq k l l) ?_
  simp only [ev_ite_iff]
  rw [if_neg (by simp)]
  exact eq_row (l := l) (fun k a b i => laws_eqLookS_h4_eq k a b i) (fun x _ => eqLook_ev x) (by omega)
def szokCell (x : CellT) : Prop := x.1.size ≤ 140737488351232 ∧ x.2.size ≤ 140737488351232
def szBCell (x : CellT) : Prop := x.1.size ≤ 1048576 ∧ x.2.size ≤ 1048576
theorem szCell_ev (x : CellT) (hx : szokCell x) (a : Int) (h0 : 0 ≤ a) (h1 : a ≤ 1048576) : ∃ v, Ev (fun k => laws_szCell k x a) v ∧ v ≤ a ∧ (0 ≤ v → szBCell x) := sz2 hx.1 hx.2 (fun k a => laws_szCell_eq k x a) a h0 h1
theorem toCell_ev (x : CellT) : Ev (fun k => laws_toCell k x) x := ev_congr (fun k => laws_toCell_eq k x) (ev_some x)
theorem eqCell_ev (x : CellT) : Ev (fun k => laws_eqCell k x x) true := ev_congr (fun k => laws_eqCell_eq k x x) (by simp [ev_some_iff])
theorem szCellS_ev (l) (hl : l.length ≤ 140737488355328) (hk : ∀ x ∈ l, szokCell x) (a : Int) (h0 : 0 ≤ a) (h1 : a ≤ 1048576) : ∃ v, Ev (fun k => laws_szCellS k l a) v ∧ v ≤ a ∧ (0 ≤ v → l.length ≤ 1048576 ∧ ∀ x ∈ l, szBCell x) :=
  sz_top (fun k l a => laws_szCellS_eq k l a) (sz_row (fun k l a i => laws_szCellS_h5_eq k l a i) (fun x hx a h0 h1 => szCell_ev x (hk x hx) a h0 h1) (by omega)) hl a h0 h1
theorem toCellS_ev (l) (hl : l.length ≤ 1048576) : Ev (fun k => laws_toCellS k l) l := by
  refine ev_congr (fun k => laws_toCellS_eq k l) ?_
  simp only [ev_ite_iff]
  rw [if_pos trivial, if_pos (by omega)]
  simpa using to_row (l := l) (cv := id) (z := _) (fun k l r i => laws_toCellS_h3_eq k l r i) (fun x _ => toCell_ev x) (by omega)
theorem eqCellS_ev (l) (hl : l.length ≤ 140737488355328) : Ev (fun k => laws_eqCellS k l l) true := by
  refine ev_congr (fun k => laws_eqCellS_eq k l l) ?_
  simp only [ev_ite_iff]
  rw [if_neg (by simp)]
  exact eq_row (l := l) (fun k a b i => laws_eqCellS_h4_eq k a b i) (fun x _ => eqCell_ev x) (by omega)
def szokRunning (x : RunT) : Prop := (x.2.2.1.length ≤ 140737488351232 ∧ ∀ y ∈ x.2.2.1, szokLook y) ∧ (x.2.2.2.1.length ≤ 140737488351232 ∧ ∀ y ∈ x.2.2.2.1, szokCell y)
def szBRunning (x : RunT) : Prop := (x.2.2.1.length ≤ 1048576 ∧ ∀ y ∈ x.2.2.1, szBLook y) ∧ (x.2.2.2.1.length ≤ 1048576 ∧ ∀ y ∈ x.2.2.2.1, szBCell y)
theorem szRunning_ev (x : RunT) (hx : szokRunning x) (a : Int) (h0 : 0 ≤ a) (h1 : a ≤ 1048576) : ∃ v, Ev (fun k => laws_szRunning k x a) v ∧ v ≤ a ∧ (0 ≤ v → szBRunning x) := by
  obtain ⟨v, hv, hle, hB⟩ := szLookS_ev x.2.2.1 (by have := hx.1.1; omega) hx.1.2 a h0 h1
  by_cases hneg : v < 0
  · exact ⟨-1, ev_congr (fun k => laws_szRunning_eq k x a) (ev_bind hv (ev_if_pos hneg (ev_some _))), by omega, fun h => by omega⟩
  · obtain ⟨u, hu, hle2, hB2⟩ := szCellS_ev x.2.2.2.1 (by have := hx.2.1; omega) hx.2.2 v (by omega) (by omega)
    by_cases hneg2 : u < 0
    · exact ⟨-1, ev_congr (fun k => laws_szRunning_eq k x a) (ev_bind hv (ev_if_neg hneg (ev_bind hu (ev_if_pos hneg2 (ev_some _))))), by omega, fun h => by omega⟩
    · exact ⟨u, ev_congr (fun k => laws_szRunning_eq k x a) (ev_bind hv (ev_if_neg hneg (ev_bind hu (ev_if_neg hneg2 (ev_some _))))), by omega, fun _ => ⟨hB (by omega), hB2 (by omega)⟩⟩
theorem szRunningS_ev (l : List RunT) (hl : l.length ≤ 140737488355328) (hk : ∀ x ∈ l, szokRunning x) (a : Int) (h0 : 0 ≤ a) (h1 : a ≤ 1048576) : ∃ v, Ev (fun k => laws_szRunningS k l a) v ∧ v ≤ a ∧ (0 ≤ v → l.length ≤ 1048576 ∧ ∀ x ∈ l, szBRunning x) :=
  sz_top (fun k l a => laws_szRunningS_eq k l a) (sz_row (e := RunK) (fun k l a i => laws_szRunningS_h5_eq k l a i) (fun x hx a h0 h1 => szRunning_ev x (hk x hx) a h0 h1) (by omega)) hl a h0 h1
theorem toRunning_ev (x : RunT) (hx : szBRunning x) : Ev (fun k => laws_toRunning k x) x :=
  ev_congr (fun k => laws_toRunning_eq k x) (ev_bind (toLookS_ev x.2.2.1 hx.1.1) (ev_bind (toCellS_ev x.2.2.2.1 hx.2.1) (ev_bind (toTid_ev _) (ev_some x))))
theorem toRunningS_ev (l : List RunT) (hl : l.length ≤ 1048576) (hB : ∀ x ∈ l, szBRunning x) : Ev (fun k => laws_toRunningS k l) l := by
  refine ev_congr (fun k => laws_toRunningS_eq k l) ?_
  simp only [ev_ite_iff]
  rw [if_pos trivial, if_pos (by omega)]
  simpa using to_row (e := RunK) (d := RunK) (l := l) (cv := id) (z := _) (fun k l r i => laws_toRunningS_h3_eq k l r i) (fun x hx => toRunning_ev x (hB x hx)) (by omega)
theorem eqRunning_ev (x : RunT) (hx : szBRunning x) : Ev (fun k => laws_eqRunning k x x) true :=
  ev_congr (fun k => laws_eqRunning_eq k x x) (ev_if_neg (by simp) (ev_if_neg (by simp) (ev_bind (eqLookS_ev x.2.2.1 (by have := hx.1.1; omega)) (ev_if_neg (by simp) (ev_bind (eqCellS_ev x.2.2.2.1 (by have := hx.2.1; omega)) (ev_if_neg (by simp) (ev_bind (eqTid_ev _) (ev_if_neg (by simp) (ev_some true)))))))))
theorem eqRunningS_ev (l : List RunT) (hl : l.length ≤ 1048576) (hB : ∀ x ∈ l, szBRunning x) : Ev (fun k => laws_eqRunningS k l l) true := by
  refine ev_congr (fun k => laws_eqRunningS_eq k l l) ?_
  simp only [ev_ite_iff]
  rw [if_neg (by simp)]
  exact eq_row (e := RunK) (l := l) (fun k a b i => laws_eqRunningS_h4_eq k a b i) (fun x hx => eqRunning_ev x (hB x hx)) (by omega)
def szokStore (s : StoreT) : Prop := (s.2.1.length ≤ 140737488351232 ∧ ∀ y ∈ s.2.1, szokRecord y) ∧ (s.2.2.1.length ≤ 140737488351232 ∧ ∀ y ∈ s.2.2.1, szokRunning y) ∧ s.2.2.2.length ≤ 140737488351232
def szBStore (s : StoreT) : Prop := (s.2.1.length ≤ 1048576 ∧ ∀ y ∈ s.2.1, szBRecord y) ∧ (s.2.2.1.length ≤ 1048576 ∧ ∀ y ∈ s.2.2.1, szBRunning y) ∧ s.2.2.2.length ≤ 1048576
theorem szIntS_ev (l : List Int) (hl : l.length ≤ 140737488351232) (a : Int) (h0 : 0 ≤ a) (h1 : a ≤ 1048576) : ∃ v, Ev (fun k => laws_szIntS k l a) v ∧ v ≤ a ∧ (0 ≤ v → l.length ≤ 1048576) := by
  have w : wrap64 (a - (l.length : Int)) = a - l.length := wrap_of (by omega) (by omega)
  by_cases h : a - (l.length : Int) < 0
  · exact ⟨-1, ev_congr (fun k => by rw [laws_szIntS_eq, w, if_pos h]) (ev_some _), by omega, fun h => by omega⟩
  · exact ⟨_, ev_congr (fun k => by rw [laws_szIntS_eq, w, if_neg h]) (ev_some _), by omega, fun _ => by omega⟩
theorem szStore_ev (x : StoreT) (hx : szokStore x) (a : Int) (h0 : 0 ≤ a) (h1 : a ≤ 1048576) : ∃ v, Ev (fun k => laws_szStore k x a) v ∧ v ≤ a ∧ (0 ≤ v → szBStore x) := by
  obtain ⟨v, hv, hle, hB⟩ := szRecordS_ev x.2.1 (by have := hx.1.1; omega) hx.1.2 a h0 h1
  by_cases hneg : v < 0
  · exact ⟨-1, ev_congr (fun k => laws_szStore_eq k x a) (ev_bind hv (ev_if_pos hneg (ev_some _))), by omega, fun h => by omega⟩
  · obtain ⟨u, hu, hle2, hB2⟩ := szRunningS_ev x.2.2.1 (by have := hx.2.1.1; omega) hx.2.1.2 v (by omega) (by omega)
    by_cases hneg2 : u < 0
    · exact ⟨-1, ev_congr (fun k => laws_szStore_eq k x a) (ev_bind hv (ev_if_neg hneg (ev_bind hu (ev_if_pos hneg2 (ev_some _))))), by omega, fun h => by omega⟩
    · obtain ⟨t, ht, hle3, hB3⟩ := szIntS_ev x.2.2.2 hx.2.2 u (by omega) (by omega)
      by_cases hneg3 : t < 0
      · exact ⟨-1, ev_congr (fun k => laws_szStore_eq k x a) (ev_bind hv (ev_if_neg hneg (ev_bind hu (ev_if_neg hneg2 (ev_bind ht (ev_if_pos hneg3 (ev_some _))))))), by omega, fun h => by omega⟩
      · exact ⟨t, ev_congr (fun k => laws_szStore_eq k x a) (ev_bind hv (ev_if_neg hneg (ev_bind hu (ev_if_neg hneg2 (ev_bind ht (ev_if_neg hneg3 (ev_some _))))))), by omega, fun _ => ⟨hB (by omega), hB2 (by omega), hB3 (by omega)⟩⟩
theorem toStore_ev (x : StoreT) (hx : szBStore x) : Ev (fun k => laws_toStore k x) x :=
  ev_congr (fun k => laws_toStore_eq k x) (ev_bind (toRecordS_ev x.2.1 hx.1.1) (ev_bind (toRunningS_ev x.2.2.1 hx.2.1.1 hx.2.1.2) (ev_bind (toIntS_ev x.2.2.2 hx.2.2) (ev_some x))))
theorem eqStore_ev (x : StoreT) (hx : szBStore x) : Ev (fun k => laws_eqStore k x x) true :=
  ev_congr (fun k => laws_eqStore_eq k x x) (ev_if_neg (by simp) (ev_bind (eqRecordS_ev x.2.1 (by have := hx.1.1; omega)) (ev_if_neg (by simp) (ev_bind (eqRunningS_ev x.2.2.1 hx.2.1.1 hx.2.1.2) (ev_if_neg (by simp) (ev_bind (eqIntS_ev x.2.2.2 (by have := hx.2.2; omega)) (ev_if_neg (by simp) (ev_some true))))))))

/-! ### runs -/
/-! look-ups -/
theorem storeAt_ev (s : StoreT) (key : ByteArray) (hl : s.2.1.length ≤ 1048576) : ∃ (i : Nat) (f : Bool), Ev (fun k => impl_Store_at k s key) ((i : Int), f) ∧ i ≤ s.2.1.length ∧ (∀ x, 0 < i → s.2.1[i - 1]? = some x → gvCompare x.1 key < 0) ∧ (∀ x, s.2.1[i]? = some x → ¬ gvCompare x.1 key < 0) ∧ (f = true ↔ ∃ x, s.2.1[i]? = some x ∧ gvCompare x.1 key = 0) := by
  obtain ⟨i, f, h1, h2⟩ := bs_ev (e := RecK) (l := s.2.1) (F := fun k x => impl_Store_at_1 k x key) (cv := fun x : RecT => gvCompare x.1 key) (H := fun k lo hi => slices_BinarySearchFunc_h3 k s.2.1 key () (s.2.1.length : Int) lo hi) (by omega) (fun x => ev_congr (fun k => impl_Store_at_1_eq k x key) (ev_some _)) (fun k lo hi => slices_BinarySearchFunc_h3_eq k s.2.1 key () _ lo hi)
  exact ⟨i, f, ev_congr (fun k => impl_Store_at_eq k s key) ((ev_bind_iff (ev_congr (fun k => slices_BinarySearchFunc_eq k s.2.1 key ()) h1)).2 (ev_some _)), h2⟩
theorem writeAt_ev (t : RunT) (key : ByteArray) (hl : t.2.2.2.1.length ≤ 1048576) : ∃ (i : Nat) (f : Bool), Ev (fun k => impl_Running_writeAt k t key) ((i : Int), f) ∧ i ≤ t.2.2.2.1.length ∧ (∀ x, 0 < i → t.2.2.2.1[i - 1]? = some x → gvCompare x.1 key < 0) ∧ (∀ x, t.2.2.2.1[i]? = some x → ¬ gvCompare x.1 key < 0) ∧ (f = true ↔ ∃ x, t.2.2.2.1[i]? = some x ∧ gvCompare x.1 key = 0) := by
  obtain ⟨i, f, h1, h2⟩ := bs_ev (e := CellK) (l := t.2.2.2.1) (F := fun k x => impl_Running_writeAt_1 k x key) (cv := fun x : CellT => gvCompare x.1 key) (H := fun k lo hi => slices_BinarySearchFunc_v1_h3 k t.2.2.2.1 key () (t.2.2.2.1.length : Int) lo hi) (by omega) (fun x => ev_congr (fun k => impl_Running_writeAt_1_eq k x key) (ev_some _)) (fun k lo hi => slices_BinarySearchFunc_v1_h3_eq k t.2.2.2.1 key () _ lo hi)
  exact ⟨i, f, ev_congr (fun k => impl_Running_writeAt_eq k t key) ((ev_bind_iff (ev_congr (fun k => slices_BinarySearchFunc_v1_eq k t.2.2.2.1 key ()) h1)).2 (ev_some _)), h2⟩
def writesB (t : RunT) (key : ByteArray) : Bool := t.2.2.2.1.any fun c => decide (c.1 = key)
theorem l5Writes_ev (t : RunT) (key : ByteArray) (hl : t.2.2.2.1.length ≤ 1048576) : Ev (fun k => spec_l5Writes k t key) (writesB t key) := by
  refine ev_congr (fun k => spec_l5Writes_eq k t key) ?_
  unfold writesB
  refine drop_ind0 t.2.2.2.1 (fun n rest => Ev (fun k => spec_l5Writes_h2 k key t.2.2.2.1 (t.2.2.2.1.length : Int) (n : Int)) (rest.any fun c => decide (c.1 = key))) ?_ ?_
  · exact ev_last fun k => by rw [spec_l5Writes_h2_eq, if_neg (by omega)]; rfl
  · intro n o rest hn ho _ ih
    refine ev_shift ?_
    simp only [spec_l5Writes_h2_eq, rdT_get (e := CellK) ho, wrap_nat (show n < 9223372036854775807 by omega), ev_ite_iff, ev_none_iff, ev_some_iff, List.any_cons]
    rw [if_pos (by omega), if_pos (by omega), if_pos (by omega)]
    by_cases h1 : o.1 = key <;> simpa [h1] using ih
def findR (l : List RecT) (key : ByteArray) : RecT × Bool := match l.find? (fun r => decide (r.1 = key)) with
  | some r => (r, true)
  | none => ((key, ByteArray.mk (Array.mk []), ((0 : Int), (0 : Int), false), (0 : Int)), false)
theorem l5Find_ev (s : StoreT) (key : ByteArray) (hl : s.2.1.length ≤ 1048576) : Ev (fun k => spec_l5Find k s key) (findR s.2.1 key) := by
  refine ev_congr (fun k => spec_l5Find_eq k s key) ?_
  refine drop_ind0 s.2.1 (fun n rest => Ev (fun k => spec_l5Find_h2 k key _ s.2.1 (s.2.1.length : Int) (n : Int)) (findR rest key)) ?_ ?_
  · exact ev_last fun k => by rw [spec_l5Find_h2_eq, if_neg (by omega)]; rfl
  · intro n o rest hn ho _ ih
    refine ev_shift ?_
    simp only [spec_l5Find_h2_eq, rdT_get (e := RecK) ho, wrap_nat (show n < 9223372036854775807 by omega), ev_ite_iff, ev_none_iff, ev_some_iff]
    rw [if_pos (by omega), if_pos (by omega), if_pos (by omega)]
    by_cases h1 : o.1 = key
    · rw [if_pos h1]; simp [findR, List.find?_cons, h1]
    · rw [if_neg h1]
      have : findR (o :: rest) key = findR rest key := by simp [findR, List.find?_cons, h1]
      rw [this]; exact ih
/-! in order, both say the same -/
theorem at_found {l : List RecT} (hs : sortedBy (e := RecK) (fun x : RecT => x.1) l) {key : ByteArray} {i : Nat} {f : Bool} (hi : i ≤ l.length) (h1 : ∀ x, 0 < i → l[i - 1]? = some x → gvCompare x.1 key < 0) (h2 : ∀ x, l[i]? = some x → ¬ gvCompare x.1 key < 0) (h3 : f = true ↔ ∃ x, l[i]? = some x ∧ gvCompare x.1 key = 0) :
    f = (findR l key).2 ∧ (f = true → l[i]? = some (findR l key).1) := by
  cases hf : l.find? (fun r => decide (r.1 = key)) with
  | none =>
    have hno := List.find?_eq_none.1 hf
    have e : findR l key = ((key, ByteArray.mk (Array.mk []), ((0 : Int), (0 : Int), false), (0 : Int)), false) := by simp [findR, hf]
    rw [e]
    have : f = false := by
      cases f with
      | false => rfl
      | true =>
        obtain ⟨x, hx, hc⟩ := h3.1 rfl
        have := hno x (List.mem_of_getElem? hx)
        rw [cmp_zero] at hc
        simp [hc] at this
    subst this
    exact ⟨rfl, fun h => by cases h⟩
  | some r =>
    have e : findR l key = (r, true) := by simp [findR, hf]
    have hk : r.1 = key := by simpa using List.find?_some hf
    obtain ⟨j, hj⟩ := List.getElem?_of_mem (List.mem_of_find?_eq_some hf)
    have := bs_sorted (e := RecK) hs h1 h2 hi hj hk
    subst this
    rw [e]
    exact ⟨h3.2 ⟨r, hj, (cmp_zero _ _).2 hk⟩, fun _ => hj⟩
theorem write_found {l : List CellT} (hs : sortedBy (e := CellK) (fun x : CellT => x.1) l) {key : ByteArray} {i : Nat} {f : Bool} (hi : i ≤ l.length) (h1 : ∀ x, 0 < i → l[i - 1]? = some x → gvCompare x.1 key < 0) (h2 : ∀ x, l[i]? = some x → ¬ gvCompare x.1 key < 0) (h3 : f = true ↔ ∃ x, l[i]? = some x ∧ gvCompare x.1 key = 0) :
    f = l.any fun c => decide (c.1 = key) := by
  rw [Bool.eq_iff_iff, h3, List.any_eq_true]
  constructor
  · rintro ⟨x, hx, hc⟩
    exact ⟨x, List.mem_of_getElem? hx, by simpa using (cmp_zero _ _).1 hc⟩
  · rintro ⟨x, hx, hc⟩
    obtain ⟨j, hj⟩ := List.getElem?_of_mem hx
    have hk : x.1 = key := by simpa using hc
    have := bs_sorted (e := CellK) hs h1 h2 hi hj hk
    subst this
    exact ⟨x, hj, (cmp_zero _ _).2 hk⟩

/-! ### goodstore1 -/
theorem mgetT_put : ∀ (m : List (Int × Bool)) (n x : Int), mgetT (.int .i64) .bool (mputT (.int .i64) .bool m n true) x = (decide (x = n) || mgetT (.int .i64) .bool m x)
  | [], n, x => by
    by_cases h : x = n <;> simp [mgetT, mputT, mfind, eqT, h, zeroT]
  | p :: m, n, x => by
    have ih := mgetT_put m n x
    simp only [mgetT, mputT, mfind, eqT] at ih ⊢
    by_cases h1 : n = p.1 <;> by_cases h2 : x = p.1 <;> by_cases h3 : x = n <;> simp_all [mfind, eqT]
theorem mgetS_put : ∀ (m : List (ByteArray × Bool)) (n x : ByteArray), mgetT .str .bool (mputT .str .bool m n true) x = (decide (x = n) || mgetT .str .bool m x)
  | [], n, x => by
    by_cases h : x = n <;> simp [mgetT, mputT, mfind, eqT, h, zeroT]
  | p :: m, n, x => by
    have ih := mgetS_put m n x
    simp only [mgetT, mputT, mfind, eqT] at ih ⊢
    by_cases h1 : n = p.1 <;> by_cases h2 : x = p.1 <;> by_cases h3 : x = n <;> simp_all [mfind, eqT]
/-! one transaction -/
def lookP (looks : List LookT) (n : Nat) (x : LookT) : Bool := keyB x.1 && (valB x.2.1 && (tidB x.2.2 && (!x.2.2.2.2 && !((looks.take n).any fun o => decide (o.1 = x.1)))))
def prevP (ws : List CellT) (n : Nat) (w : CellT) : Bool := !decide (0 < n) || lessS (rdT CellK ws ((n : Int) - 1)).1 w.1
def cellP (ws : List CellT) (n : Nat) (w : CellT) : Bool := keyB w.1 && (valB w.2 && prevP ws n w)
def ownsB (st : Int) : Bool := decide (st = 2) || decide (st = 3)
def toldB (st : Int) : Bool := decide (st = 3) || decide (st = 4)
def zeroB (t : TidT) : Bool := Bool.and (decide (t.1 = 0)) (Bool.and (decide (t.2.1 = 0)) (decide (t.2.2 = false)))
def runI (t : RunT) (id : Int) : Bool := decide (t.1 = id) && (decide (1 ≤ t.2.1 ∧ t.2.1 ≤ 5) && (decide (t.2.2.1.length ≤ 40) && (tidB t.2.2.2.2 && (!t.2.2.2.2.2.2 && ((toldB t.2.1 || zeroB t.2.2.2.2) && (allFrom (lookP t.2.2.1) 0 t.2.2.1 && allFrom (cellP t.2.2.2.1) 0 t.2.2.2.1))))))
theorem owns_ev (st : Int) : Ev (fun k => impl_owns k st) (ownsB st) := by
  refine ev_congr (fun k => impl_owns_eq k st) ?_
  simp only [ev_ite_iff, ev_some_iff, ownsB]
  by_cases h : st = 2 <;> simp [h]
def szB2 (t : RunT) : Prop := szBRunning t
theorem isRunning_ev (t : RunT) (id : Int) (ht : szBRunning t) : Ev (fun k => impl_isRunning k t id) (runI t id) := by
  obtain ⟨⟨a1, a2⟩, b1, b2⟩ := ht
  have hw : Ev (fun k => impl_isRunning_h13 k t t.2.2.2.1 (t.2.2.2.1.length : Int) 0) (allFrom (cellP t.2.2.2.1) 0 t.2.2.2.1) := by
    have := all_loop t.2.2.2.1 (fun k i => impl_isRunning_h13 k t t.2.2.2.1 (t.2.2.2.1.length : Int) i) (cellP t.2.2.2.1) true (ev_last fun k => by rw [impl_isRunning_h13_eq, if_neg (by omega)]) ?_
    · simpa using this
    · intro n w v hn hx hv
      have hsz := b2 w (List.mem_of_getElem? hx)
      simp only [impl_isRunning_h13_eq, rdT_get (e := CellK) hx, wrap_nat (show n < 9223372036854775807 by omega), wrap_pred (show n < 9223372036854775807 by omega), ev_bind_iff (isKey_ev _), ev_bind_iff (isValue_ev w.2 (by have := hsz.2; omega)), ev_ite_iff, ev_some_iff, ev_none_iff]
      rw [if_pos (by omega), if_pos (by omega), if_pos (by omega)]
      unfold cellP prevP
      cases keyB w.1 with
      | false => simp
      | true =>
      cases valB w.2 with
      | false => simp
      | true =>
      by_cases c0 : (0 : Int) < (n : Int)
      · have d1 : (0 : Int) ≤ (n : Int) - 1 := by omega
        have d2 : (n : Int) - 1 < (t.2.2.2.1.length : Int) := by omega
        simp only [if_pos c0, if_pos d1, if_pos d2]
        have hc : 0 < n := by omega
        cases hq : lessS (rdT CellK t.2.2.2.1 ((n : Int) - 1)).1 w.1 <;> simpa [hc] using hv
      · have hc : ¬ 0 < n := by omega
        simp only [if_neg c0]
        simpa [hc] using hv
  have hk : ∀ m : List (ByteArray × Bool), (∀ x, mgetT .str .bool m x = false) → Ev (fun k => impl_isRunning_h6 k t m t.2.2.1 (t.2.2.1.length : Int) 0) (allFrom (lookP t.2.2.1) 0 t.2.2.1 && allFrom (cellP t.2.2.2.1) 0 t.2.2.2.1) := by
    have key := drop_ind0 t.2.2.1 (fun n rest => ∀ m : List (ByteArray × Bool), (∀ x, mgetT .str .bool m x = (t.2.2.1.take n).any fun o => decide (o.1 = x)) → Ev (fun k => impl_isRunning_h6 k t m t.2.2.1 (t.2.2.1.length : Int) (n : Int)) (allFrom (lookP t.2.2.1) n rest && allFrom (cellP t.2.2.2.1) 0 t.2.2.2.1)) ?_ ?_
    · intro m hm; exact key m (fun x => by rw [hm]; rfl)
    · intro m hm
      refine ev_shift ?_
      simp only [impl_isRunning_h6_eq, ev_ite_iff]
      rw [if_neg (by omega)]
      simpa [allFrom] using hw
    · intro n x rest hn hx _ ih m hm
      have hsz := a2 x (List.mem_of_getElem? hx)
      have hnext := ih (mputT .str .bool m x.1 true) (fun y => by
        rw [mgetS_put, hm, take_snoc hx, List.any_append, Bool.or_comm]
        simp only [List.any_cons, List.any_nil, Bool.or_false]
        congr 1
        exact decide_eq_decide.2 ⟨fun h => h.symm, fun h => h.symm⟩)
      refine ev_shift ?_
      simp only [impl_isRunning_h6_eq, rdT_get (e := LookK) hx, wrap_nat (show n < 9223372036854775807 by omega), hm x.1, ev_bind_iff (isKey_ev _), ev_bind_iff (isValue_ev x.2.1 (by have := hsz.2; omega)), ev_bind_iff (isTid_ev _), ev_ite_iff, ev_some_iff, ev_none_iff, allFrom]
      rw [if_pos (by omega), if_pos (by omega), if_pos (by omega)]
      unfold lookP at hnext ⊢
      cases keyB x.1 with
      | false => simp
      | true =>
      cases (t.2.2.1.take n).any fun o => decide (o.1 = x.1) with
      | true => simp
      | false =>
      cases valB x.2.1 with
      | false => simp
      | true =>
      cases tidB x.2.2 with
      | false => simp
      | true =>
      cases x.2.2.2.2 with
      | true => simp
      | false => simpa using hnext
  refine ev_congr (fun k => impl_isRunning_eq k t id) ?_
  have h6 := hk [] (fun x => rfl)
  simp only [ev_bind_iff (in_ev _ _ _), ev_bind_iff (isTid_ev _), ev_ite_iff, ev_some_iff]
  unfold runI toldB zeroB
  by_cases h1 : t.1 = id
  · by_cases h2 : 1 ≤ t.2.1 ∧ t.2.1 ≤ 5
    · by_cases h3 : t.2.2.1.length ≤ 40
      · have h3' : ¬ (40 : Int) < (t.2.2.1.length : Int) := by omega
        cases h4 : tidB t.2.2.2.2 with
        | false => simp [h1, h2, h3, h3']
        | true =>
        cases h5 : t.2.2.2.2.2.2 with
        | true => simp [h1, h2, h3, h3']
        | false =>
        by_cases h7 : t.2.1 = 3
        · simpa [h1, h2, h3, h3', h7] using h6
        · by_cases h8 : t.2.1 = 4
          · simpa [h1, h2, h3, h3', h7, h8] using h6
          · by_cases h9 : t.2.2.2.2.1 = 0
            · by_cases h10 : t.2.2.2.2.2.1 = 0
              · simpa [h1, h2, h3, h3', h7, h8, h9, h10] using h6
              · simp [h1, h2, h3, h3', h7, h8, h9, h10]
            · simp [h1, h2, h3, h3', h7, h8, h9]
      · have h3' : (40 : Int) < (t.2.2.1.length : Int) := by omega
        simp [h1, h2, h3, h3']
    · simp [h1, h2]
  · simp [h1]

/-! ### goodstore2 -/
/-! the reference's one transaction -/
def specW (recs : List RecT) (holds : Bool) (id : Int) (ws : List CellT) (n : Nat) (w : CellT) : Bool := keyB w.1 && (valB w.2 && (prevP ws n w && (!holds || ((findR recs w.1).2 && decide ((findR recs w.1).1.2.2.2 = id)))))
def endB (t : RunT) : Bool := cond (toldB t.2.1) (tidB t.2.2.2.2 && !t.2.2.2.2.2.2) (zeroB t.2.2.2.2)
def runS (recs : List RecT) (t : RunT) (id : Int) : Bool := decide (t.1 = id) && (decide (1 ≤ t.2.1 ∧ t.2.1 ≤ 5) && (decide (t.2.2.1.length ≤ 40) && (allFrom (lookP t.2.2.1) 0 t.2.2.1 && (allFrom (specW recs (ownsB t.2.1) t.1 t.2.2.2.1) 0 t.2.2.2.1 && endB t))))
theorem runS_ev (s : StoreT) (n : Nat) (t : RunT) (hs : szBStore s) (hn : s.2.2.1[n]? = some t) : Ev (fun k => spec_l5Running k s (n : Int)) (runS s.2.1 t ((n : Int) + 1)) := by
  obtain ⟨⟨r1, r2⟩, ⟨t1, t2⟩, o1⟩ := hs
  have hnl : n < s.2.2.1.length := (List.getElem?_eq_some_iff.1 hn).1
  obtain ⟨⟨a1, a2⟩, b1, b2⟩ := t2 t (List.mem_of_getElem? hn)
  have hend : ∀ h : Bool, Ev (fun k => spec_l5Running_h18 k s t h t.2.2.2.1 (t.2.2.2.1.length : Int) (t.2.2.2.1.length : Int)) (endB t) := by
    intro h
    refine ev_shift ?_
    simp only [spec_l5Running_h18_eq, ev_bind_iff (l1Tid_ev _), ev_ite_iff, ev_some_iff]
    rw [if_neg (by omega)]
    unfold endB toldB zeroB
    by_cases h3 : t.2.1 = 3
    · cases tidB t.2.2.2.2 <;> simp [h3]
    · by_cases h4 : t.2.1 = 4
      · cases tidB t.2.2.2.2 <;> simp [h3, h4]
      · simp [h3, h4]
  have hw : ∀ h : Bool, Ev (fun k => spec_l5Running_h18 k s t h t.2.2.2.1 (t.2.2.2.1.length : Int) 0) (allFrom (specW s.2.1 h t.1 t.2.2.2.1) 0 t.2.2.2.1 && endB t) := by
    intro h
    refine all_loop t.2.2.2.1 (fun k i => spec_l5Running_h18 k s t h t.2.2.2.1 (t.2.2.2.1.length : Int) i) (specW s.2.1 h t.1 t.2.2.2.1) (endB t) (hend h) ?_
    intro n w v hn hx hv
    have hsz := b2 w (List.mem_of_getElem? hx)
    simp only [spec_l5Running_h18_eq, rdT_get (e := CellK) hx, wrap_nat (show n < 9223372036854775807 by omega), wrap_pred (show n < 9223372036854775807 by omega), ev_bind_iff (l1Key_ev w.1 (by have := hsz.1; omega)), ev_bind_iff (l1Value_ev w.2 (by have := hsz.2; omega)), ev_bind_iff (l5Find_ev s w.1 r1), ev_ite_iff, ev_some_iff, ev_none_iff]
    rw [if_pos (by omega), if_pos (by omega), if_pos (by omega)]
    unfold specW prevP
    cases keyB w.1 with
    | false => simp
    | true =>
    cases valB w.2 with
    | false => simp
    | true =>
    by_cases c0 : (0 : Int) < (n : Int)
    · have d1 : (0 : Int) ≤ (n : Int) - 1 := by omega
      have d2 : (n : Int) - 1 < (t.2.2.2.1.length : Int) := by omega
      simp only [if_pos c0, if_pos d1, if_pos d2]
      have hc : 0 < n := by omega
      cases hq : lessS (rdT CellK t.2.2.2.1 ((n : Int) - 1)).1 w.1 with
      | false => simp [hc]
      | true =>
        cases h with
        | false => simpa [hc] using hv
        | true =>
          cases hf : (findR s.2.1 w.1).2 with
          | false => simp [hc]
          | true =>
            by_cases ho : (findR s.2.1 w.1).1.2.2.2 = t.1 <;> simpa [hc, ho] using hv
    · have hc : ¬ 0 < n := by omega
      simp only [if_neg c0]
      cases h with
      | false => simpa [hc] using hv
      | true =>
        cases hf : (findR s.2.1 w.1).2 with
        | false => simp [hc]
        | true =>
          by_cases ho : (findR s.2.1 w.1).1.2.2.2 = t.1 <;> simpa [hc, ho] using hv
  have hk : Ev (fun k => spec_l5Running_h5 k s t t.2.2.1 (t.2.2.1.length : Int) 0) (allFrom (lookP t.2.2.1) 0 t.2.2.1 && (allFrom (specW s.2.1 (ownsB t.2.1) t.1 t.2.2.2.1) 0 t.2.2.2.1 && endB t)) := by
    refine all_loop t.2.2.1 (fun k i => spec_l5Running_h5 k s t t.2.2.1 (t.2.2.1.length : Int) i) (lookP t.2.2.1) _ ?_ ?_
    · refine ev_shift ?_
      simp only [spec_l5Running_h5_eq, ev_ite_iff]
      rw [if_neg (by omega)]
      by_cases h2 : t.2.1 = 2
      · rw [if_pos h2]
        have : ownsB t.2.1 = true := by simp [ownsB, h2]
        rw [this]; exact hw true
      · rw [if_neg h2]
        have : ownsB t.2.1 = decide (t.2.1 = 3) := by simp [ownsB, h2]
        rw [this]; exact hw _
    · intro n x v hn hx hv
      have hsz := a2 x (List.mem_of_getElem? hx)
      have hin : Ev (fun k => spec_l5Running_h10 k s t x t.2.2.1 (t.2.2.1.length : Int) (n : Int) (t.2.2.1.take n) ((t.2.2.1.take n).length : Int) 0) (!((t.2.2.1.take n).any fun o => decide (o.1 = x.1)) && v) := by
        refine drop_ind0 (t.2.2.1.take n) (fun j rest => Ev (fun k => spec_l5Running_h10 k s t x t.2.2.1 (t.2.2.1.length : Int) (n : Int) (t.2.2.1.take n) ((t.2.2.1.take n).length : Int) (j : Int)) (!(rest.any fun o => decide (o.1 = x.1)) && v)) ?_ ?_
        · refine ev_shift ?_
          simp only [spec_l5Running_h10_eq, ev_ite_iff, wrap_nat (show n < 9223372036854775807 by omega)]
          rw [if_neg (by omega)]
          simpa using hv
        · intro j o rest hj ho _ ih
          have htl : (t.2.2.1.take n).length ≤ 1048576 := by rw [List.length_take]; omega
          refine ev_shift ?_
          simp only [spec_l5Running_h10_eq, rdT_get (e := LookK) ho, wrap_nat (show j < 9223372036854775807 by omega), ev_ite_iff, ev_some_iff, ev_none_iff, List.any_cons]
          rw [if_pos (by omega), if_pos (by omega), if_pos (by omega)]
          by_cases h1 : o.1 = x.1 <;> simpa [h1] using ih
      have hsl : (List.drop (Int.toNat 0) (List.take (Int.toNat (n : Int)) t.2.2.1)) = t.2.2.1.take n := by simp
      simp only [spec_l5Running_h5_eq, rdT_get (e := LookK) hx, hsl, ev_bind_iff (l1Key_ev x.1 (by have := hsz.1; omega)), ev_bind_iff (l1Value_ev x.2.1 (by have := hsz.2; omega)), ev_bind_iff (l1Tid_ev _), ev_ite_iff, ev_some_iff, ev_none_iff]
      have e1 : (n : Int) ≤ (t.2.2.1.length : Int) := by omega
      rw [if_pos (by omega), if_pos (by omega), if_pos (by omega), if_pos (show (0 : Int) ≤ (n : Int) by omega), if_pos e1]
      unfold lookP
      cases keyB x.1 with
      | false => simp
      | true =>
      cases valB x.2.1 with
      | false => simp
      | true =>
      cases tidB x.2.2 with
      | false => simp
      | true =>
      cases x.2.2.2.2 with
      | true => simp
      | false => simpa using hin
  refine ev_congr (fun k => spec_l5Running_eq k s (n : Int)) ?_
  simp only [rdT_get (e := RunK) hn, wrap_nat (show n < 9223372036854775807 by omega), ev_bind_iff (l1In_ev _ _ _), ev_ite_iff, ev_some_iff, ev_none_iff]
  rw [if_pos (by omega), if_pos (by omega)]
  unfold runS
  have hcast : ((n + 1 : Nat) : Int) = (n : Int) + 1 := by omega
  rw [hcast]
  by_cases h1 : t.1 = (n : Int) + 1
  · by_cases h2 : 1 ≤ t.2.1 ∧ t.2.1 ≤ 5
    · by_cases h3 : t.2.2.1.length ≤ 40
      · have h3' : ¬ (40 : Int) < (t.2.2.1.length : Int) := by omega
        rw [if_neg (by simp [h1]), if_neg (by simp [h2]), if_neg h3']
        simp only [h1, h2, h3, decide_true, Bool.true_and, and_self]
        rw [h1] at hk
        exact hk
      · have h3' : (40 : Int) < (t.2.2.1.length : Int) := by omega
        simp [h1, h2, h3, h3']
    · simp [h1, h2]
  · simp [h1]
/-! the store -/
def stateB (s : StoreT) (id : Int) : Int := if 1 ≤ id ∧ id ≤ (s.2.2.1.length : Int) then (rdT RunK s.2.2.1 (id - 1)).2.1 else 0
theorem l5State_ev (s : StoreT) (id : Int) (hl : s.2.2.1.length ≤ 1048576) : Ev (fun k => spec_l5State k s id) (stateB s id) := by
  refine ev_congr (fun k => spec_l5State_eq k s id) ?_
  simp only [ev_bind_iff (l1In_ev _ _ _), ev_ite_iff, ev_some_iff, ev_none_iff, stateB]
  by_cases h : 1 ≤ id ∧ id ≤ (s.2.2.1.length : Int)
  · have w : wrap64 (id - 1) = id - 1 := wrap_of (by omega) (by omega)
    rw [if_neg (by simp [h]), w, if_pos (by omega), if_pos (by omega), if_pos h]
  · rw [if_pos (by simp [h]), if_neg h]
def recC (s : StoreT) (n : Nat) (r : RecT) : Bool := keyB r.1 && (valB r.2.1 && (tidB r.2.2.1 && (decide (r.2.2.1.1 ≤ s.1) && (decide (r.2.2.1.2.2 = decide (¬ r.2.2.2 = 0)) && (!decide (0 < n) || lessS (rdT RecK s.2.1 ((n : Int) - 1)).1 r.1)))))
def recS (s : StoreT) (n : Nat) (r : RecT) : Bool := recC s n r && (decide (r.2.2.2 = 0) || (ownsB (stateB s r.2.2.2) && writesB (rdT RunK s.2.2.1 (r.2.2.2 - 1)) r.1))
def ordS (s : StoreT) (n : Nat) (id : Int) : Bool := toldB (stateB s id) && !hasB (s.2.2.2.take n) id
def countB : List RunT → Nat
  | [] => 0
  | t :: l => cond (toldB t.2.1) 1 0 + countB l
theorem countB_le : ∀ l, countB l ≤ l.length
  | [] => Nat.le_refl _
  | t :: l => by have := countB_le l; simp only [countB, List.length_cons]; cases toldB t.2.1 <;> simp <;> omega
def storeS (s : StoreT) : Bool := decide (1 ≤ s.1 ∧ s.1 ≤ 1000) && (decide (s.2.1.length ≤ 40) && (decide (s.2.2.1.length ≤ 20) && (allFrom (recS s) 0 s.2.1 && (allFrom (fun n t => runS s.2.1 t ((n : Int) + 1)) 0 s.2.2.1 && (allFrom (ordS s) 0 s.2.2.2 && decide (s.2.2.2.length = countB s.2.2.1))))))
theorem storeS_ev (s : StoreT) (hs : szBStore s) : Ev (fun k => spec_GoodStore k s) (storeS s) := by
  have hs' := hs
  obtain ⟨⟨r1, r2⟩, ⟨t1, t2⟩, o1⟩ := hs'
  have h23 : ∀ many : Int, Ev (fun k => spec_GoodStore_h23 k s many s.2.2.2 (s.2.2.2.length : Int) 0) (allFrom (ordS s) 0 s.2.2.2 && decide ((s.2.2.2.length : Int) = many)) := by
    intro many
    refine all_loop s.2.2.2 (fun k i => spec_GoodStore_h23 k s many s.2.2.2 (s.2.2.2.length : Int) i) (ordS s) _ (ev_last fun k => by rw [spec_GoodStore_h23_eq, if_neg (by omega)]) ?_
    intro n id v hn hx hv
    have hsl : (List.drop (Int.toNat 0) (List.take (Int.toNat (n : Int)) s.2.2.2)) = s.2.2.2.take n := by simp
    have htl : (s.2.2.2.take n).length ≤ 140737488355328 := by rw [List.length_take]; omega
    have e1 : (n : Int) ≤ (s.2.2.2.length : Int) := by omega
    simp only [spec_GoodStore_h23_eq, rdT_get (e := .int .i64) hx, hsl, wrap_nat (show n < 9223372036854775807 by omega), ev_bind_iff (l5State_ev s id t1), ev_bind_iff (l1Has_ev (s.2.2.2.take n) id htl), ev_ite_iff, ev_some_iff, ev_none_iff]
    rw [if_pos (by omega), if_pos (by omega), if_pos (by omega)]
    have e0 : (0 : Int) ≤ (n : Int) := by omega
    simp only [if_pos e0, if_pos e1]
    unfold ordS toldB
    by_cases h3 : stateB s id = 3
    · cases hasB (s.2.2.2.take n) id <;> simpa [h3] using hv
    · by_cases h4 : stateB s id = 4
      · cases hasB (s.2.2.2.take n) id <;> simpa [h3, h4] using hv
      · simp [h3, h4]
  have h15 : Ev (fun k => spec_GoodStore_h15 k s 0 s.2.2.1 (s.2.2.1.length : Int) 0) (allFrom (fun n t => runS s.2.1 t ((n : Int) + 1)) 0 s.2.2.1 && (allFrom (ordS s) 0 s.2.2.2 && decide (s.2.2.2.length = countB s.2.2.1))) := by
    have key := drop_ind0 s.2.2.1 (fun n rest => ∀ many : Nat, many ≤ n → Ev (fun k => spec_GoodStore_h15 k s (many : Int) s.2.2.1 (s.2.2.1.length : Int) (n : Int)) (allFrom (fun n t => runS s.2.1 t ((n : Int) + 1)) n rest && (allFrom (ordS s) 0 s.2.2.2 && decide (s.2.2.2.length = many + countB rest)))) ?_ ?_
    · have := key 0 (Nat.le_refl 0)
      simpa using this
    · intro many hm
      refine ev_shift ?_
      simp only [spec_GoodStore_h15_eq, ev_ite_iff]
      rw [if_neg (by omega)]
      have h := h23 (many : Int)
      have e : decide ((s.2.2.2.length : Int) = (many : Int)) = decide (s.2.2.2.length = many + countB []) := decide_eq_decide.2 ⟨fun h => by simp only [countB]; omega, fun h => by simp only [countB] at h; omega⟩
      rw [e] at h
      simpa [allFrom] using h
    · intro n t rest hn hx _ ih many hm
      have i0 := ih many (by omega)
      have i1 := ih (many + 1) (by omega)
      have w : wrap64 ((many : Int) + 1) = ((many + 1 : Nat) : Int) := wrap_nat (by omega)
      refine ev_shift ?_
      simp only [spec_GoodStore_h15_eq, rdT_get (e := RunK) hx, w, wrap_nat (show n < 9223372036854775807 by omega), ev_bind_iff (runS_ev s n t hs hx), ev_ite_iff, ev_some_iff, ev_none_iff, allFrom]
      rw [if_pos (by omega), if_pos (by omega), if_pos (by omega)]
      cases hr : runS s.2.1 t ((n : Int) + 1) with
      | false => simp
      | true =>
        have ec : countB (t :: rest) = cond (toldB t.2.1) 1 0 + countB rest := rfl
        rw [ec]
        by_cases h3 : t.2.1 = 3
        · have et : toldB t.2.1 = true := by simp [toldB, h3]
          rw [et, if_neg (by simp), if_pos h3]
          have e : many + (cond true 1 0 + countB rest) = many + 1 + countB rest := by simp only [cond_true]; omega
          rw [e]
          simpa using i1
        · by_cases h4 : t.2.1 = 4
          · have et : toldB t.2.1 = true := by simp [toldB, h4]
            rw [et, if_neg (by simp), if_neg h3, if_pos h4]
            have e : many + (cond true 1 0 + countB rest) = many + 1 + countB rest := by simp only [cond_true]; omega
            rw [e]
            simpa using i1
          · have et : toldB t.2.1 = false := by simp [toldB, h3, h4]
            rw [et, if_neg (by simp), if_neg h3, if_neg h4]
            have e : many + (cond false 1 0 + countB rest) = many + countB rest := by simp
            rw [e]
            simpa using i0
  have h4 : Ev (fun k => spec_GoodStore_h4 k s s.2.1 (s.2.1.length : Int) 0) (allFrom (recS s) 0 s.2.1 && (allFrom (fun n t => runS s.2.1 t ((n : Int) + 1)) 0 s.2.2.1 && (allFrom (ordS s) 0 s.2.2.2 && decide (s.2.2.2.length = countB s.2.2.1)))) := by
    refine all_loop s.2.1 (fun k i => spec_GoodStore_h4 k s s.2.1 (s.2.1.length : Int) i) (recS s) _ ?_ ?_
    · refine ev_shift ?_
      simp only [spec_GoodStore_h4_eq, ev_ite_iff]
      rw [if_neg (by omega)]
      exact h15
    · intro n r v hn hx hv
      have hsz := r2 r (List.mem_of_getElem? hx)
      have rest : (if r.2.2.2 = 0 then Ev (fun k => spec_GoodStore_h4 k s s.2.1 (s.2.1.length : Int) ((n + 1 : Nat) : Int)) ((decide (r.2.2.2 = 0) || (ownsB (stateB s r.2.2.2) && writesB (rdT RunK s.2.2.1 (r.2.2.2 - 1)) r.1)) && v) else
          (if ¬ stateB s r.2.2.2 = 2 then (if ¬ stateB s r.2.2.2 = 3 then false = ((decide (r.2.2.2 = 0) || (ownsB (stateB s r.2.2.2) && writesB (rdT RunK s.2.2.1 (r.2.2.2 - 1)) r.1)) && v) else
            (if 0 ≤ wrap64 (r.2.2.2 - 1) then (if wrap64 (r.2.2.2 - 1) < (s.2.2.1.length : Int) then Ev (fun k => (spec_l5Writes k (rdT RunK s.2.2.1 (wrap64 (r.2.2.2 - 1))) r.1).bind fun t4 => if (!t4) = true then some false else spec_GoodStore_h4 k s s.2.1 (s.2.1.length : Int) ((n + 1 : Nat) : Int)) ((decide (r.2.2.2 = 0) || (ownsB (stateB s r.2.2.2) && writesB (rdT RunK s.2.2.1 (r.2.2.2 - 1)) r.1)) && v) else False) else False)) else
            (if 0 ≤ wrap64 (r.2.2.2 - 1) then (if wrap64 (r.2.2.2 - 1) < (s.2.2.1.length : Int) then Ev (fun k => (spec_l5Writes k (rdT RunK s.2.2.1 (wrap64 (r.2.2.2 - 1))) r.1).bind fun t4 => if (!t4) = true then some false else spec_GoodStore_h4 k s s.2.1 (s.2.1.length : Int) ((n + 1 : Nat) : Int)) ((decide (r.2.2.2 = 0) || (ownsB (stateB s r.2.2.2) && writesB (rdT RunK s.2.2.1 (r.2.2.2 - 1)) r.1)) && v) else False) else False))) := by
        by_cases h0 : r.2.2.2 = 0
        · rw [if_pos h0]; simpa [h0] using hv
        · rw [if_neg h0]
          by_cases hin : 1 ≤ r.2.2.2 ∧ r.2.2.2 ≤ (s.2.2.1.length : Int)
          · have w : wrap64 (r.2.2.2 - 1) = r.2.2.2 - 1 := wrap_of (by omega) (by omega)
            obtain ⟨j, hj⟩ : ∃ j : Nat, r.2.2.2 - 1 = (j : Int) := ⟨(r.2.2.2 - 1).toNat, by omega⟩
            have ht : s.2.2.1[j]? = some s.2.2.1[j] := List.getElem?_eq_getElem (by omega)
            have hrd := rdT_get (e := RunK) ht
            have htt := t2 _ (List.mem_of_getElem? ht)
            have hwr := l5Writes_ev (rdT RunK s.2.2.1 (r.2.2.2 - 1)) r.1 (by rw [hj, hrd]; exact htt.2.1)
            have e1 : (0 : Int) ≤ r.2.2.2 - 1 := by omega
            have e2 : r.2.2.2 - 1 < (s.2.2.1.length : Int) := by omega
            simp only [w, if_pos e1, if_pos e2, ev_bind_iff hwr, ev_ite_iff, ev_some_iff]
            unfold ownsB
            by_cases h2 : stateB s r.2.2.2 = 2
            · rw [if_neg (by simp [h2])]
              cases writesB (rdT RunK s.2.2.1 (r.2.2.2 - 1)) r.1 <;> simpa [h0, h2] using hv
            · rw [if_pos h2]
              by_cases h3 : stateB s r.2.2.2 = 3
              · rw [if_neg (by simp [h3])]
                cases writesB (rdT RunK s.2.2.1 (r.2.2.2 - 1)) r.1 <;> simpa [h0, h2, h3] using hv
              · rw [if_pos h3]; simp [h0, h2, h3]
          · have hst : stateB s r.2.2.2 = 0 := by unfold stateB; rw [if_neg hin]
            simp [hst, ownsB, h0]
      simp only [spec_GoodStore_h4_eq, rdT_get (e := RecK) hx, wrap_nat (show n < 9223372036854775807 by omega), wrap_pred (show n < 9223372036854775807 by omega), ev_bind_iff (l1Key_ev r.1 (by have := hsz.1; omega)), ev_bind_iff (l1Value_ev r.2.1 (by have := hsz.2; omega)), ev_bind_iff (l1Tid_ev _), ev_bind_iff (l5State_ev s r.2.2.2 t1), ev_ite_iff, ev_some_iff, ev_none_iff]
      rw [if_pos (by omega), if_pos (by omega), if_pos (by omega)]
      unfold recS recC
      cases keyB r.1 with
      | false => simp
      | true =>
      cases valB r.2.1 with
      | false => simp
      | true =>
      cases tidB r.2.2.1 with
      | false => simp
      | true =>
      by_cases h5 : s.1 < r.2.2.1.1
      · have : ¬ r.2.2.1.1 ≤ s.1 := by omega
        simp [h5, this]
      · have h5' : r.2.2.1.1 ≤ s.1 := by omega
        by_cases h6 : r.2.2.1.2.2 = decide (¬ r.2.2.2 = 0)
        · by_cases c0 : (0 : Int) < (n : Int)
          · have d1 : (0 : Int) ≤ (n : Int) - 1 := by omega
            have d2 : (n : Int) - 1 < (s.2.1.length : Int) := by omega
            have hc : 0 < n := by omega
            simp only [if_pos c0, if_pos d1, if_pos d2, if_neg h5, if_neg (not_not_intro h6)]
            cases hq : lessS (rdT RecK s.2.1 ((n : Int) - 1)).1 r.1 with
            | false => simp [hc]
            | true => simp only [h5', h6, hc, decide_true, Bool.true_and, Bool.not_true, Bool.false_or, Bool.and_true]; simp only [Bool.false_eq_true, if_false]; exact rest
          · have hc : ¬ 0 < n := by omega
            simp only [if_neg c0, if_neg h5, if_neg (not_not_intro h6)]
            simp only [h5', h6, hc, decide_true, decide_false, Bool.true_and, Bool.not_false, Bool.true_or, Bool.and_true, Bool.not_true, Bool.false_eq_true, if_false]
            exact rest
        · have h6' : decide (r.2.2.1.2.2 = decide (¬ r.2.2.2 = 0)) = false := decide_eq_false h6
          simp only [if_neg h5, if_pos h6, h6', Bool.false_and, Bool.and_false]
          simp
  refine ev_congr (fun k => spec_GoodStore_eq k s) ?_
  simp only [ev_bind_iff (l1In_ev _ _ _), ev_ite_iff, ev_some_iff]
  unfold storeS
  by_cases g1 : 1 ≤ s.1 ∧ s.1 ≤ 1000
  · by_cases g2 : s.2.1.length ≤ 40
    · by_cases g3 : s.2.2.1.length ≤ 20
      · rw [if_neg (by simp [g1]), if_neg (by omega), if_neg (by omega)]
        simpa [g1, g2, g3] using h4
      · rw [if_neg (by simp [g1]), if_neg (by omega), if_pos (by omega)]; simp [g3]
    · rw [if_neg (by simp [g1]), if_pos (by omega)]; simp [g2]
  · rw [if_pos (by simp [g1])]; simp [g1]

/-! ### goodstore3 -/
/-! the program's store -/
noncomputable def writeV (t : RunT) (key : ByteArray) : Bool := @decide (∃ i : Nat, Ev (fun k => impl_Running_writeAt k t key) ((i : Int), true)) (Classical.propDecidable _)
theorem writeV_ev (t : RunT) (key : ByteArray) (hl : t.2.2.2.1.length ≤ 1048576) : ∃ i : Int, Ev (fun k => impl_Running_writeAt k t key) (i, writeV t key) := by
  obtain ⟨i, f, h1, _⟩ := writeAt_ev t key hl
  refine ⟨(i : Int), ?_⟩
  have : writeV t key = f := by
    unfold writeV
    cases f with
    | true => exact @decide_eq_true _ (Classical.propDecidable _) ⟨i, h1⟩
    | false =>
      refine @decide_eq_false _ (Classical.propDecidable _) ?_
      rintro ⟨j, hj⟩
      have := ev_uniq h1 hj
      simp at this
  rw [this]; exact h1
theorem writeV_any (t : RunT) (key : ByteArray) (hl : t.2.2.2.1.length ≤ 1048576) (hs : sortedBy (e := CellK) (fun x : CellT => x.1) t.2.2.2.1) : writeV t key = writesB t key := by
  obtain ⟨i, f, h1, h2, h3, h4, h5⟩ := writeAt_ev t key hl
  obtain ⟨j, hj⟩ := writeV_ev t key hl
  have := ev_uniq h1 hj
  simp only [Prod.mk.injEq] at this
  rw [← this.2]
  exact write_found hs h2 h3 h4 h5
noncomputable def atV (s : StoreT) (key : ByteArray) : Nat × Bool := @dite _ (∃ p : Nat × Bool, Ev (fun k => impl_Store_at k s key) ((p.1 : Int), p.2)) (Classical.propDecidable _) (fun h => Classical.choose h) (fun _ => (0, false))
theorem atV_ev (s : StoreT) (key : ByteArray) (hl : s.2.1.length ≤ 1048576) : Ev (fun k => impl_Store_at k s key) (((atV s key).1 : Int), (atV s key).2) ∧ ((atV s key).2 = true → (atV s key).1 < s.2.1.length) ∧
    (sortedBy (e := RecK) (fun x : RecT => x.1) s.2.1 → (atV s key).2 = (findR s.2.1 key).2 ∧ ((atV s key).2 = true → s.2.1[(atV s key).1]? = some (findR s.2.1 key).1)) := by
  obtain ⟨i, f, h1, h2, h3, h4, h5⟩ := storeAt_ev s key hl
  have hex : ∃ p : Nat × Bool, Ev (fun k => impl_Store_at k s key) ((p.1 : Int), p.2) := ⟨(i, f), h1⟩
  have hv : atV s key = (i, f) := by
    have e : atV s key = Classical.choose hex := by unfold atV; rw [dif_pos hex]
    rw [e]
    have := ev_uniq h1 (Classical.choose_spec hex)
    simp only [Prod.mk.injEq] at this
    exact Prod.ext (by have := this.1; omega) this.2.symm
  rw [hv]
  refine ⟨h1, fun hf => ?_, fun hs => at_found hs h2 h3 h4 h5⟩
  obtain ⟨x, hx, _⟩ := h5.1 hf
  exact (List.getElem?_eq_some_iff.1 hx).1
def ordI (s : StoreT) (n : Nat) (id : Int) : Bool := decide (1 ≤ id ∧ id ≤ (s.2.2.1.length : Int)) && !hasB (s.2.2.2.take n) id
noncomputable def recI (s : StoreT) (n : Nat) (r : RecT) : Bool := recC s n r && (decide (0 ≤ r.2.2.2 ∧ r.2.2.2 ≤ (s.2.2.1.length : Int)) && (decide (r.2.2.2 = 0) || (ownsB (rdT RunK s.2.2.1 (r.2.2.2 - 1)).2.1 && writeV (rdT RunK s.2.2.1 (r.2.2.2 - 1)) r.1)))
noncomputable def ownP (s : StoreT) (t : RunT) (c : CellT) : Bool := !ownsB t.2.1 || ((atV s c.1).2 && decide ((rdT RecK s.2.1 ((atV s c.1).1 : Int)).2.2.2 = t.1))
noncomputable def txnI (s : StoreT) (n : Nat) (t : RunT) : Bool := runI t ((n : Int) + 1) && (decide (hasB s.2.2.2 ((n : Int) + 1) = toldB t.2.1) && allFrom (fun _ c => ownP s t c) 0 t.2.2.2.1)
noncomputable def storeI (s : StoreT) : Bool := decide (1 ≤ s.1 ∧ s.1 ≤ 1000) && (decide (s.2.1.length ≤ 40) && (decide (s.2.2.1.length ≤ 20) && (allFrom (ordI s) 0 s.2.2.2 && (allFrom (recI s) 0 s.2.1 && allFrom (txnI s) 0 s.2.2.1))))
theorem storeI_ev (s : StoreT) (hs : szBStore s) : Ev (fun k => impl_isStore k s) (storeI s) := by
  have hs' := hs
  obtain ⟨⟨r1, r2⟩, ⟨t1, t2⟩, o1⟩ := hs'
  have h23 : ∀ m : List (Int × Bool), (∀ x, mgetT (.int .i64) .bool m x = hasB s.2.2.2 x) → Ev (fun k => impl_isStore_h23 k s m s.2.2.1 (s.2.2.1.length : Int) 0) (allFrom (txnI s) 0 s.2.2.1) := by
    intro m hm
    have := all_loop s.2.2.1 (fun k i => impl_isStore_h23 k s m s.2.2.1 (s.2.2.1.length : Int) i) (txnI s) true (ev_last fun k => by rw [impl_isStore_h23_eq, if_neg (by omega)]) ?_
    · simpa using this
    · intro n t v hn hx hv
      have ht := t2 t (List.mem_of_getElem? hx)
      have h28 : Ev (fun k => impl_isStore_h28 k s m t s.2.2.1 (s.2.2.1.length : Int) (n : Int) t.2.2.2.1 (t.2.2.2.1.length : Int) 0) (allFrom (fun _ c => ownP s t c) 0 t.2.2.2.1 && v) := by
        have hb := ht.2.1
        refine all_loop t.2.2.2.1 (fun k i => impl_isStore_h28 k s m t s.2.2.1 (s.2.2.1.length : Int) (n : Int) t.2.2.2.1 (t.2.2.2.1.length : Int) i) (fun _ c => ownP s t c) v ?_ ?_
        · refine ev_shift ?_
          simp only [impl_isStore_h28_eq, ev_ite_iff, wrap_nat (show n < 9223372036854775807 by omega)]
          rw [if_neg (by omega)]
          exact hv
        · intro j c u hj hc hu
          obtain ⟨q1, q2, _⟩ := atV_ev s c.1 r1
          simp only [impl_isStore_h28_eq, rdT_get (e := CellK) hc, wrap_nat (show j < 9223372036854775807 by omega), ev_bind_iff q1, ev_bind_iff (owns_ev t.2.1), ev_ite_iff, ev_some_iff, ev_none_iff]
          rw [if_pos (by omega), if_pos (by omega), if_pos (by omega)]
          unfold ownP
          cases ownsB t.2.1 with
          | false => simpa using hu
          | true =>
            cases hf : (atV s c.1).2 with
            | false => simp
            | true =>
              have hlt := q2 hf
              have d1 : (0 : Int) ≤ ((atV s c.1).1 : Int) := by omega
              have d2 : ((atV s c.1).1 : Int) < (s.2.1.length : Int) := by omega
              simp only [if_pos d1, if_pos d2]
              by_cases ho : (rdT RecK s.2.1 ((atV s c.1).1 : Int)).2.2.2 = t.1 <;> simpa [ho] using hu
      have hcast : ((n + 1 : Nat) : Int) = (n : Int) + 1 := by omega
      simp only [impl_isStore_h23_eq, rdT_get (e := RunK) hx, wrap_nat (show n < 9223372036854775807 by omega), hcast, ev_bind_iff (isRunning_ev t ((n : Int) + 1) ht), hm, ev_ite_iff, ev_some_iff, ev_none_iff]
      rw [if_pos (by omega), if_pos (by omega), if_pos (by omega)]
      unfold txnI toldB
      cases runI t ((n : Int) + 1) with
      | false => simp
      | true =>
        by_cases h3 : t.2.1 = 3
        · cases hasB s.2.2.2 ((n : Int) + 1) <;> simpa [h3] using h28
        · by_cases h4 : t.2.1 = 4
          · cases hasB s.2.2.2 ((n : Int) + 1) <;> simpa [h3, h4] using h28
          · cases hasB s.2.2.2 ((n : Int) + 1) <;> simpa [h3, h4] using h28
  have h12 : ∀ m : List (Int × Bool), (∀ x, mgetT (.int .i64) .bool m x = hasB s.2.2.2 x) → Ev (fun k => impl_isStore_h12 k s m s.2.1 (s.2.1.length : Int) 0) (allFrom (recI s) 0 s.2.1 && allFrom (txnI s) 0 s.2.2.1) := by
    intro m hm
    refine all_loop s.2.1 (fun k i => impl_isStore_h12 k s m s.2.1 (s.2.1.length : Int) i) (recI s) _ ?_ ?_
    · refine ev_shift ?_
      simp only [impl_isStore_h12_eq, ev_ite_iff]
      rw [if_neg (by omega)]
      exact h23 m hm
    · intro n r v hn hx hv
      have hsz := r2 r (List.mem_of_getElem? hx)
      have tail : ∀ A : Bool, A = (decide (0 ≤ r.2.2.2 ∧ r.2.2.2 ≤ (s.2.2.1.length : Int)) && (decide (r.2.2.2 = 0) || (ownsB (rdT RunK s.2.2.1 (r.2.2.2 - 1)).2.1 && writeV (rdT RunK s.2.2.1 (r.2.2.2 - 1)) r.1))) →
          (if (!decide (0 ≤ r.2.2.2 ∧ r.2.2.2 ≤ (s.2.2.1.length : Int))) = true then false = (A && v) else
            (if r.2.2.2 = 0 then Ev (fun k => impl_isStore_h12 k s m s.2.1 (s.2.1.length : Int) ((n + 1 : Nat) : Int)) (A && v) else
              (if 0 ≤ wrap64 (r.2.2.2 - 1) then (if wrap64 (r.2.2.2 - 1) < (s.2.2.1.length : Int) then
                Ev (fun k => (impl_Running_writeAt k (rdT RunK s.2.2.1 (wrap64 (r.2.2.2 - 1))) r.1).bind fun t4 => (impl_owns k (rdT RunK s.2.2.1 (wrap64 (r.2.2.2 - 1))).2.1).bind fun t5 => if (!t5) = true then some false else if (!t4.2) = true then some false else impl_isStore_h12 k s m s.2.1 (s.2.1.length : Int) ((n + 1 : Nat) : Int)) (A && v) else False) else False))) := by
        intro A hA
        by_cases hin : 0 ≤ r.2.2.2 ∧ r.2.2.2 ≤ (s.2.2.1.length : Int)
        · rw [if_neg (by simp [hin])]
          by_cases h0 : r.2.2.2 = 0
          · rw [if_pos h0]
            have : A = true := by rw [hA]; simp [hin, h0]
            rw [this]; simpa using hv
          · rw [if_neg h0]
            have w : wrap64 (r.2.2.2 - 1) = r.2.2.2 - 1 := wrap_of (by omega) (by omega)
            obtain ⟨j, hj⟩ : ∃ j : Nat, r.2.2.2 - 1 = (j : Int) := ⟨(r.2.2.2 - 1).toNat, by omega⟩
            have ht : s.2.2.1[j]? = some s.2.2.1[j] := List.getElem?_eq_getElem (by omega)
            have hrd := rdT_get (e := RunK) ht
            have htt := t2 _ (List.mem_of_getElem? ht)
            obtain ⟨i, hi⟩ := writeV_ev (rdT RunK s.2.2.1 (r.2.2.2 - 1)) r.1 (by rw [hj, hrd]; exact htt.2.1)
            rw [w, if_pos (by omega), if_pos (by omega)]
            simp only [ev_bind_iff hi, ev_bind_iff (owns_ev _), ev_ite_iff, ev_some_iff]
            cases ho : ownsB (rdT RunK s.2.2.1 (r.2.2.2 - 1)).2.1 with
            | false =>
              have : A = false := by rw [hA]; simp [h0, ho]
              simp [this]
            | true =>
              cases hwv : writeV (rdT RunK s.2.2.1 (r.2.2.2 - 1)) r.1 with
              | false =>
                have : A = false := by rw [hA]; simp [h0, ho, hwv]
                simp [this]
              | true =>
                have : A = true := by rw [hA]; simp [hin, h0, ho, hwv]
                simpa [this] using hv
        · rw [if_pos (by simp only [hin, decide_false]; rfl)]
          have : A = false := by rw [hA]; simp only [hin, decide_false, Bool.false_and]
          simp [this]
      simp only [impl_isStore_h12_eq, rdT_get (e := RecK) hx, wrap_nat (show n < 9223372036854775807 by omega), wrap_pred (show n < 9223372036854775807 by omega), ev_bind_iff (isKey_ev r.1), ev_bind_iff (isValue_ev r.2.1 (by have := hsz.2; omega)), ev_bind_iff (isTid_ev _), ev_bind_iff (in_ev _ _ _), ev_ite_iff, ev_some_iff, ev_none_iff]
      rw [if_pos (by omega), if_pos (by omega), if_pos (by omega)]
      have hT := tail _ rfl
      unfold recI recC
      cases keyB r.1 with
      | false => simp
      | true =>
      by_cases h5 : s.1 < r.2.2.1.1
      · have h5' : ¬ r.2.2.1.1 ≤ s.1 := by omega
        by_cases c0 : (0 : Int) < (n : Int)
        · have d1 : (0 : Int) ≤ (n : Int) - 1 := by omega
          have d2 : (n : Int) - 1 < (s.2.1.length : Int) := by omega
          simp only [if_pos c0, if_pos d1, if_pos d2, if_pos h5]
          cases lessS (rdT RecK s.2.1 ((n : Int) - 1)).1 r.1 <;> cases valB r.2.1 <;> cases tidB r.2.2.1 <;> simp [h5']
        · simp only [if_neg c0, if_pos h5]
          cases valB r.2.1 <;> cases tidB r.2.2.1 <;> simp [h5']
      · have h5' : r.2.2.1.1 ≤ s.1 := by omega
        by_cases h6 : r.2.2.1.2.2 = decide (¬ r.2.2.2 = 0)
        · have h6' : decide (r.2.2.1.2.2 = decide (¬ r.2.2.2 = 0)) = true := decide_eq_true h6
          by_cases c0 : (0 : Int) < (n : Int)
          · have d1 : (0 : Int) ≤ (n : Int) - 1 := by omega
            have d2 : (n : Int) - 1 < (s.2.1.length : Int) := by omega
            have hc : 0 < n := by omega
            simp only [if_pos c0, if_pos d1, if_pos d2, if_neg h5, if_neg (not_not_intro h6), h6']
            cases lessS (rdT RecK s.2.1 ((n : Int) - 1)).1 r.1 with
            | false => simp [hc]
            | true =>
            cases valB r.2.1 with
            | false => simp
            | true =>
            cases tidB r.2.2.1 with
            | false => simp
            | true =>
              simp only [h5', hc, decide_true, Bool.true_and, Bool.not_true, Bool.false_or, Bool.and_true, Bool.false_eq_true, if_false]
              exact hT
          · have hc : ¬ 0 < n := by omega
            simp only [if_neg c0, if_neg h5, if_neg (not_not_intro h6), h6']
            cases valB r.2.1 with
            | false => simp
            | true =>
            cases tidB r.2.2.1 with
            | false => simp
            | true =>
              simp only [h5', hc, decide_true, decide_false, Bool.true_and, Bool.not_true, Bool.not_false, Bool.true_or, Bool.and_true, Bool.false_eq_true, if_false]
              exact hT
        · have h6' : decide (r.2.2.1.2.2 = decide (¬ r.2.2.2 = 0)) = false := decide_eq_false h6
          by_cases c0 : (0 : Int) < (n : Int)
          · have d1 : (0 : Int) ≤ (n : Int) - 1 := by omega
            have d2 : (n : Int) - 1 < (s.2.1.length : Int) := by omega
            simp only [if_pos c0, if_pos d1, if_pos d2, if_neg h5, if_pos h6, h6', Bool.false_and, Bool.and_false]
            cases lessS (rdT RecK s.2.1 ((n : Int) - 1)).1 r.1 <;> cases valB r.2.1 <;> cases tidB r.2.2.1 <;> simp
          · simp only [if_neg c0, if_neg h5, if_pos h6, h6', Bool.false_and, Bool.and_false]
            cases valB r.2.1 <;> cases tidB r.2.2.1 <;> simp
  have h5 : Ev (fun k => impl_isStore_h5 k s [] s.2.2.2 (s.2.2.2.length : Int) 0) (allFrom (ordI s) 0 s.2.2.2 && (allFrom (recI s) 0 s.2.1 && allFrom (txnI s) 0 s.2.2.1)) := by
    have key := drop_ind0 s.2.2.2 (fun n rest => ∀ m : List (Int × Bool), (∀ x, mgetT (.int .i64) .bool m x = hasB (s.2.2.2.take n) x) → Ev (fun k => impl_isStore_h5 k s m s.2.2.2 (s.2.2.2.length : Int) (n : Int)) (allFrom (ordI s) n rest && (allFrom (recI s) 0 s.2.1 && allFrom (txnI s) 0 s.2.2.1))) ?_ ?_
    · exact key [] (fun x => rfl)
    · intro m hm
      rw [List.take_length] at hm
      refine ev_shift ?_
      simp only [impl_isStore_h5_eq, ev_ite_iff]
      rw [if_neg (by omega)]
      simpa [allFrom] using h12 m hm
    · intro n id rest hn hx _ ih m hm
      have hnext := ih (mputT (.int .i64) .bool m id true) (fun y => by
        rw [mgetT_put, hm, take_snoc hx]
        unfold hasB
        rw [List.any_append, Bool.or_comm]
        simp only [List.any_cons, List.any_nil, Bool.or_false]
        congr 1
        exact decide_eq_decide.2 ⟨fun h => h.symm, fun h => h.symm⟩)
      refine ev_shift ?_
      simp only [impl_isStore_h5_eq, rdT_get (e := .int .i64) hx, wrap_nat (show n < 9223372036854775807 by omega), hm id, ev_bind_iff (in_ev _ _ _), ev_ite_iff, ev_some_iff, ev_none_iff, allFrom]
      rw [if_pos (by omega), if_pos (by omega), if_pos (by omega)]
      unfold ordI at hnext ⊢
      by_cases hin : 1 ≤ id ∧ id ≤ (s.2.2.1.length : Int)
      · cases hasB (s.2.2.2.take n) id <;> simpa [hin] using hnext
      · simp only [hin, decide_false]; simp
  refine ev_congr (fun k => impl_isStore_eq k s) ?_
  simp only [ev_bind_iff (in_ev _ _ _), ev_ite_iff, ev_some_iff]
  unfold storeI
  by_cases g1 : 1 ≤ s.1 ∧ s.1 ≤ 1000
  · by_cases g2 : s.2.1.length ≤ 40
    · by_cases g3 : s.2.2.1.length ≤ 20
      · rw [if_neg (by simp [g1]), if_neg (by omega), if_neg (by omega)]
        simpa [g1, g2, g3] using h5
      · rw [if_neg (by simp [g1]), if_neg (by omega), if_pos (by omega)]; simp [g3]
    · rw [if_neg (by simp [g1]), if_pos (by omega)]; simp [g2]
  · rw [if_pos (by simp [g1])]; simp [g1]

/-! ### storesame -/
/-! both say the same -/
theorem sorted_cells {t : RunT} (h : ∀ n w, t.2.2.2.1[n]? = some w → prevP t.2.2.2.1 n w = true) : sortedBy (e := CellK) (fun x : CellT => x.1) t.2.2.2.1 := by
  intro i x y hx hy
  have := h (i + 1) y hy
  unfold prevP at this
  rw [show (((i + 1 : Nat) : Int) - 1) = (i : Int) by omega, rdT_get (e := CellK) hx] at this
  simpa using this
theorem sorted_recs {s : StoreT} (h : ∀ n r, s.2.1[n]? = some r → recC s n r = true) : sortedBy (e := RecK) (fun x : RecT => x.1) s.2.1 := by
  intro i x y hx hy
  have := h (i + 1) y hy
  unfold recC at this
  rw [show (((i + 1 : Nat) : Int) - 1) = (i : Int) by omega, rdT_get (e := RecK) hx] at this
  simp only [Bool.and_eq_true] at this
  simpa using this.2.2.2.2.2
def tlFrom : Nat → List RunT → List Int
  | _, [] => []
  | n, t :: l => cond (toldB t.2.1) (((n : Int) + 1) :: tlFrom (n + 1) l) (tlFrom (n + 1) l)
theorem tl_len : ∀ (l : List RunT) (n : Nat), (tlFrom n l).length = countB l
  | [], n => rfl
  | t :: l, n => by
    have := tl_len l (n + 1)
    simp only [tlFrom, countB]
    cases toldB t.2.1 <;> simp [this]; omega
theorem tl_mem : ∀ (l : List RunT) (n : Nat) (x : Int), x ∈ tlFrom n l ↔ ∃ i t, l[i]? = some t ∧ toldB t.2.1 = true ∧ x = ((n + i : Nat) : Int) + 1
  | [], n, x => by simp [tlFrom]
  | t :: l, n, x => by
    have ih := tl_mem l (n + 1) x
    have split : (∃ i u, (t :: l)[i]? = some u ∧ toldB u.2.1 = true ∧ x = ((n + i : Nat) : Int) + 1) ↔ (toldB t.2.1 = true ∧ x = (n : Int) + 1) ∨ ∃ i u, l[i]? = some u ∧ toldB u.2.1 = true ∧ x = ((n + 1 + i : Nat) : Int) + 1 := by
      constructor
      · rintro ⟨i, u, h1, h2, h3⟩
        cases i with
        | zero => simp at h1; subst h1; exact .inl ⟨h2, by simpa using h3⟩
        | succ i => exact .inr ⟨i, u, by simpa using h1, h2, by rw [h3]; omega⟩
      · rintro (⟨h1, h2⟩ | ⟨i, u, h1, h2, h3⟩)
        · exact ⟨0, t, by simp, h1, by simpa using h2⟩
        · exact ⟨i + 1, u, by simpa using h1, h2, by rw [h3]; omega⟩
    rw [split, ← ih]
    simp only [tlFrom]
    cases h : toldB t.2.1 <;> simp
theorem tl_nodup : ∀ (l : List RunT) (n : Nat), (tlFrom n l).Nodup
  | [], n => List.nodup_nil
  | t :: l, n => by
    have ih := tl_nodup l (n + 1)
    simp only [tlFrom]
    cases h : toldB t.2.1 with
    | false => exact ih
    | true =>
      refine List.nodup_cons.2 ⟨fun hm => ?_, ih⟩
      obtain ⟨i, u, _, _, h3⟩ := (tl_mem l (n + 1) _).1 hm
      omega
theorem nodup_of {l : List Int} (h : ∀ (n : Nat) x, l[n]? = some x → hasB (l.take n) x = false) : l.Nodup := by
  refine List.pairwise_iff_getElem.2 fun i j hi hj hij hne => ?_
  have := h j _ (List.getElem?_eq_getElem hj)
  have hmem : l[j] ∈ l.take j := by
    have : (l.take j)[i]? = some l[j] := by rw [List.getElem?_take, if_pos hij, List.getElem?_eq_getElem hi, hne]
    exact List.mem_of_getElem? this
  rw [← Bool.not_eq_true, hasB_iff] at this
  exact this hmem
theorem state_at {s : StoreT} {i : Nat} {t : RunT} (h : s.2.2.1[i]? = some t) : stateB s ((i : Int) + 1) = t.2.1 := by
  have hl : i < s.2.2.1.length := (List.getElem?_eq_some_iff.1 h).1
  unfold stateB
  rw [if_pos (by omega), show ((i : Int) + 1 - 1) = (i : Int) by omega, rdT_get (e := RunK) h]
theorem order_same (s : StoreT) : ((∀ n id, s.2.2.2[n]? = some id → ordS s n id = true) ∧ s.2.2.2.length = countB s.2.2.1) ↔ ((∀ n id, s.2.2.2[n]? = some id → ordI s n id = true) ∧ ∀ (n : Nat) t, s.2.2.1[n]? = some t → hasB s.2.2.2 ((n : Int) + 1) = toldB t.2.1) := by
  have mem0 : ∀ x, x ∈ tlFrom 0 s.2.2.1 ↔ ∃ (i : Nat) (t : RunT), s.2.2.1[i]? = some t ∧ toldB t.2.1 = true ∧ x = (i : Int) + 1 := fun x => by rw [tl_mem]; simp
  constructor
  · rintro ⟨h1, h2⟩
    have told : ∀ n id, s.2.2.2[n]? = some id → toldB (stateB s id) = true ∧ hasB (s.2.2.2.take n) id = false := fun n id h => by
      have := h1 n id h
      simp only [ordS, Bool.and_eq_true, Bool.not_eq_true'] at this
      exact this
    have range : ∀ id, toldB (stateB s id) = true → 1 ≤ id ∧ id ≤ (s.2.2.1.length : Int) := fun id h => by
      unfold stateB at h
      split at h
      · assumption
      · simp [toldB] at h
    have hnd := nodup_of fun n x h => (told n x h).2
    have hsub : ∀ id ∈ s.2.2.2, id ∈ tlFrom 0 s.2.2.1 := by
      intro id hid
      obtain ⟨n, hn⟩ := List.getElem?_of_mem hid
      have ht := (told n id hn).1
      have hr := range id ht
      obtain ⟨j, hj⟩ : ∃ j : Nat, id - 1 = (j : Int) := ⟨(id - 1).toNat, by omega⟩
      have he : id = (j : Int) + 1 := by omega
      have hu : s.2.2.1[j]? = some s.2.2.1[j] := List.getElem?_eq_getElem (by omega)
      rw [mem0]
      refine ⟨j, _, hu, ?_, he⟩
      rw [← state_at hu, ← he]; exact ht
    refine ⟨fun n id h => ?_, fun n t h => ?_⟩
    · have := told n id h
      have hr := range id this.1
      simp only [ordI, Bool.and_eq_true, decide_eq_true_eq, Bool.not_eq_true']
      exact ⟨hr, this.2⟩
    · rw [Bool.eq_iff_iff, hasB_iff]
      constructor
      · intro hm
        obtain ⟨i, u, q1, q2, q3⟩ := (mem0 _).1 (hsub _ hm)
        have : i = n := by omega
        subst this
        rw [h] at q1; cases q1; exact q2
      · intro ht
        by_cases hm : ((n : Int) + 1) ∈ s.2.2.2
        · exact hm
        · have hin : ((n : Int) + 1) ∈ tlFrom 0 s.2.2.1 := (mem0 _).2 ⟨n, t, h, ht, rfl⟩
          have := List.Nodup.length_le_of_subset (l₁ := ((n : Int) + 1) :: s.2.2.2) (l₂ := tlFrom 0 s.2.2.1) (List.nodup_cons.2 ⟨hm, hnd⟩) (fun x hx => by
            rcases List.mem_cons.1 hx with rfl | hx
            · exact hin
            · exact hsub x hx)
          rw [tl_len, ← h2, List.length_cons] at this
          omega
  · rintro ⟨h1, h2⟩
    have inr : ∀ n id, s.2.2.2[n]? = some id → (1 ≤ id ∧ id ≤ (s.2.2.1.length : Int)) ∧ hasB (s.2.2.2.take n) id = false := fun n id h => by
      have := h1 n id h
      simp only [ordI, Bool.and_eq_true, decide_eq_true_eq, Bool.not_eq_true'] at this
      exact this
    have hnd := nodup_of fun n x h => (inr n x h).2
    have hold : ∀ id ∈ s.2.2.2, ∃ (i : Nat) (t : RunT), s.2.2.1[i]? = some t ∧ toldB t.2.1 = true ∧ id = (i : Int) + 1 := by
      intro id hid
      obtain ⟨n, hn⟩ := List.getElem?_of_mem hid
      have hr := (inr n id hn).1
      obtain ⟨j, hj⟩ : ∃ j : Nat, id - 1 = (j : Int) := ⟨(id - 1).toNat, by omega⟩
      have he : id = (j : Int) + 1 := by omega
      have hu : s.2.2.1[j]? = some s.2.2.1[j] := List.getElem?_eq_getElem (by omega)
      refine ⟨j, _, hu, ?_, he⟩
      rw [← h2 j _ hu, hasB_iff, ← he]; exact hid
    refine ⟨fun n id h => ?_, ?_⟩
    · obtain ⟨i, t, q1, q2, q3⟩ := hold id (List.mem_of_getElem? h)
      simp only [ordS, Bool.and_eq_true, Bool.not_eq_true']
      exact ⟨by rw [q3, state_at q1]; exact q2, (inr n id h).2⟩
    · rw [← tl_len s.2.2.1 0]
      have hperm : s.2.2.2.Perm (tlFrom 0 s.2.2.1) := (List.perm_ext_iff_of_nodup hnd (tl_nodup _ _)).2 fun x => by
        rw [mem0]
        constructor
        · exact hold x
        · rintro ⟨i, t, q1, q2, q3⟩
          rw [q3, ← hasB_iff, h2 i t q1]; exact q2
      exact hperm.length_eq
theorem store_same (s : StoreT) (hs : szBStore s) : storeS s = storeI s := by
  obtain ⟨⟨r1, r2⟩, ⟨t1, t2⟩, o1⟩ := hs
  rw [Bool.eq_iff_iff]
  simp only [storeS, storeI, Bool.and_eq_true, decide_eq_true_eq, allFrom_iff, Nat.zero_add]
  have cells : ∀ {t : RunT} {n : Nat} {w : CellT} {b : Bool}, b = cellP t.2.2.2.1 n w → b = true → prevP t.2.2.2.1 n w = true := fun h h' => by
    rw [h] at h'
    simp only [cellP, Bool.and_eq_true] at h'
    exact h'.2.2
  -- one transaction
  have txn : sortedBy (e := RecK) (fun x : RecT => x.1) s.2.1 → ∀ (n : Nat) (t : RunT), s.2.2.1[n]? = some t → (runS s.2.1 t ((n : Int) + 1) = true ↔ runI t ((n : Int) + 1) = true ∧ ∀ (i : Nat) (c : CellT), t.2.2.2.1[i]? = some c → ownP s t c = true) := by
    intro hsrt n t ht
    have own : ∀ c, ownP s t c = (!ownsB t.2.1 || ((findR s.2.1 c.1).2 && decide ((findR s.2.1 c.1).1.2.2.2 = t.1))) := by
      intro c
      obtain ⟨q1, q2, q3⟩ := atV_ev s c.1 r1
      obtain ⟨q4, q5⟩ := q3 hsrt
      unfold ownP
      rw [q4]
      cases hf : (findR s.2.1 c.1).2 with
      | false => rfl
      | true =>
        rw [hf] at q4
        have := q5 q4
        rw [rdT_get (e := RecK) this]
    have hend : ∀ t : RunT, (endB t = true ↔ tidB t.2.2.2.2 = true ∧ t.2.2.2.2.2.2 = false ∧ (toldB t.2.1 || zeroB t.2.2.2.2) = true) := by
      intro t
      unfold endB
      cases toldB t.2.1 with
      | true => simp
      | false =>
        simp only [cond_false, Bool.false_or]
        constructor
        · intro h
          have h' := h
          simp only [zeroB, Bool.and_eq_true, decide_eq_true_eq] at h'
          exact ⟨by simp [tidB, h'.1, h'.2.1], h'.2.2, h⟩
        · exact fun h => h.2.2
    simp only [runS, runI, Bool.and_eq_true, decide_eq_true_eq, Bool.not_eq_true', allFrom_iff, Nat.zero_add, specW, cellP, own, hend]
    constructor
    · rintro ⟨a, b, c, d, e, f⟩
      exact ⟨⟨a, b, c, f.1, f.2.1, f.2.2, d, fun i x hx => ⟨(e i x hx).1, (e i x hx).2.1, (e i x hx).2.2.1⟩⟩, fun i x hx => (e i x hx).2.2.2⟩
    · rintro ⟨⟨a, b, c, f1, f2, f3, d, e⟩, g⟩
      exact ⟨a, b, c, d, fun i x hx => ⟨(e i x hx).1, (e i x hx).2.1, (e i x hx).2.2, g i x hx⟩, f1, f2, f3⟩
  have recs : (∀ (n : Nat) (t : RunT), s.2.2.1[n]? = some t → sortedBy (e := CellK) (fun x : CellT => x.1) t.2.2.2.1) → ∀ n r, recS s n r = recI s n r := by
    intro hw n r
    unfold recS recI
    cases recC s n r with
    | false => rfl
    | true =>
      simp only [Bool.true_and]
      by_cases h0 : r.2.2.2 = 0
      · have : (0 : Int) ≤ r.2.2.2 ∧ r.2.2.2 ≤ (s.2.2.1.length : Int) := by omega
        simp [h0]
      · by_cases hin : 0 ≤ r.2.2.2 ∧ r.2.2.2 ≤ (s.2.2.1.length : Int)
        · obtain ⟨j, hj⟩ : ∃ j : Nat, r.2.2.2 - 1 = (j : Int) := ⟨(r.2.2.2 - 1).toNat, by omega⟩
          have he : r.2.2.2 = (j : Int) + 1 := by omega
          have hu : s.2.2.1[j]? = some s.2.2.1[j] := List.getElem?_eq_getElem (by omega)
          have hst := state_at hu
          rw [← he] at hst
          rw [hst, hj, rdT_get (e := RunK) hu, writeV_any _ _ (t2 _ (List.mem_of_getElem? hu)).2.1 (hw j _ hu)]
          simp [h0, hin]
        · have hst : stateB s r.2.2.2 = 0 := by unfold stateB; rw [if_neg (by omega)]
          simp only [hin, decide_false, Bool.false_and, hst]
          simp [ownsB, h0]
  constructor
  · rintro ⟨a, b, c, d, e, f, g⟩
    have hrs := sorted_recs (s := s) fun n r h => by have := d n r h; simp only [recS, Bool.and_eq_true] at this; exact this.1
    have ho := (order_same s).1 ⟨f, g⟩
    have ht := fun n t h => (txn hrs n t h).1 (e n t h)
    have hws : ∀ (n : Nat) (t : RunT), s.2.2.1[n]? = some t → sortedBy (e := CellK) (fun x : CellT => x.1) t.2.2.2.1 := fun n t h => sorted_cells fun i w hw => by
      have := (ht n t h).1
      simp only [runI, Bool.and_eq_true, allFrom_iff, Nat.zero_add] at this
      exact cells rfl (this.2.2.2.2.2.2.2 i w hw)
    refine ⟨a, b, c, ho.1, fun n r h => (recs hws n r) ▸ d n r h, fun n t h => ?_⟩
    simp only [txnI, Bool.and_eq_true, decide_eq_true_eq, allFrom_iff, Nat.zero_add]
    exact ⟨(ht n t h).1, ho.2 n t h, (ht n t h).2⟩
  · rintro ⟨a, b, c, f, d, e⟩
    have hrs := sorted_recs (s := s) fun n r h => by have := d n r h; simp only [recI, Bool.and_eq_true] at this; exact this.1
    have ht : ∀ (n : Nat) (t : RunT), s.2.2.1[n]? = some t → runI t ((n : Int) + 1) = true ∧ hasB s.2.2.2 ((n : Int) + 1) = toldB t.2.1 ∧ ∀ (i : Nat) (c : CellT), t.2.2.2.1[i]? = some c → ownP s t c = true := fun n t h => by
      have := e n t h
      simpa only [txnI, Bool.and_eq_true, decide_eq_true_eq, allFrom_iff, Nat.zero_add] using this
    have hws : ∀ (n : Nat) (t : RunT), s.2.2.1[n]? = some t → sortedBy (e := CellK) (fun x : CellT => x.1) t.2.2.2.1 := fun n t h => sorted_cells fun i w hw => by
      have := (ht n t h).1
      simp only [runI, Bool.and_eq_true, allFrom_iff, Nat.zero_add] at this
      exact cells rfl (this.2.2.2.2.2.2.2 i w hw)
    have ho := (order_same s).2 ⟨f, fun n t h => (ht n t h).2.1⟩
    exact ⟨a, b, c, fun n r h => (recs hws n r).symm ▸ d n r h, fun n t h => (txn hrs n t h).2 ⟨(ht n t h).1, (ht n t h).2.2⟩, ho.1, ho.2⟩

/-! ### cats -/
theorem wrap_i64 {x : Int} (h0 : -9223372036854775808 ≤ x) (h1 : x ≤ 9223372036854775807) : IntKind.wrap .i64 x = x := by
  rw [← wrapK_eq]; unfold wrapK; rw [if_pos rfl]; exact wrap_of h0 h1
theorem catS_size0 (a b : ByteArray) : (catS a b).size = a.size + b.size := by
  show (catS a b).data.size = a.data.size + b.data.size
  simp [catS]

/-! ### mtext -/
theorem mt_ex : ∀ (n : Nat) (acc : ByteArray), acc.size + n ≤ 1099511627776 → ∃ r, Ev (fun k => laws_markText_h4 k (n : Int) acc) r := by
  intro n
  induction n using Nat.strongRecOn with
  | ind n ih =>
    intro acc ha
    by_cases h0 : n = 0
    · subst h0
      refine ⟨catS (ByteArray.mk (Array.mk (List.cons 109 []))) acc, ev_last fun k => ?_⟩
      rw [laws_markText_h4_eq, if_neg (by omega), if_pos (by have : (ByteArray.mk (Array.mk (List.cons 109 []))).size = 1 := rfl; omega)]
    · have hd : Int.tdiv (n : Int) 10 = ((n / 10 : Nat) : Int) := by rw [Int.tdiv_eq_ediv_of_nonneg (by omega)]; omega
      obtain ⟨r, hr⟩ := ih (n / 10) (by omega) (catS (bytesOf [IntKind.wrap .u8 (wrap64 (48 + Int.tmod (n : Int) 10))]) acc) (by
        rw [catS_size0]
        have : (bytesOf [IntKind.wrap .u8 (wrap64 (48 + Int.tmod (n : Int) 10))]).size = 1 := rfl
        omega)
      refine ⟨r, ev_shift ?_⟩
      simp only [laws_markText_h4_eq, ev_ite_iff, hd, wrap_i64 (x := ((n / 10 : Nat) : Int)) (by omega) (by omega)]
      have : (bytesOf [IntKind.wrap .u8 (wrap64 (48 + Int.tmod (n : Int) 10))]).size = 1 := rfl
      rw [if_pos (by omega), if_pos (by omega)]
      exact hr
theorem mark_ex (n : Int) (hn : n ≤ 1073741824) : ∃ r, Ev (fun k => laws_markText k n) r := by
  by_cases h : n ≤ 0
  · exact ⟨_, ev_congr (fun k => laws_markText_eq k n) (ev_if_pos h (ev_some _))⟩
  · obtain ⟨r, hr⟩ := mt_ex n.toNat (ByteArray.mk (Array.mk [])) (by have : (ByteArray.mk (Array.mk [])).size = 0 := rfl; omega)
    refine ⟨r, ev_congr (fun k => laws_markText_eq k n) (ev_if_neg h ?_)⟩
    rw [show ((n.toNat : Nat) : Int) = n by omega] at hr
    exact hr
open Classical in
noncomputable def mtx (n : Int) : ByteArray := if h : ∃ r, Ev (fun k => laws_markText k n) r then Classical.choose h else ByteArray.mk (Array.mk [])
theorem mtx_ev (n : Int) (hn : n ≤ 1073741824) : Ev (fun k => laws_markText k n) (mtx n) := by
  have h := mark_ex n hn
  unfold mtx
  rw [dif_pos h]
  exact Classical.choose_spec h

/-! ### mtext2 -/
/-- a mark's text, whatever the mark -/
theorem mt_ex2 : ∀ (d n : Nat) (acc : ByteArray), n < 10 ^ d → n ≤ 4611686018427387904 → acc.size + d ≤ 1099511627776 → ∃ r, Ev (fun k => laws_markText_h4 k (n : Int) acc) r := by
  intro d
  induction d with
  | zero =>
    intro n acc hn _ ha
    have : n = 0 := by simpa using hn
    subst this
    refine ⟨catS (ByteArray.mk (Array.mk (List.cons 109 []))) acc, ev_last fun k => ?_⟩
    rw [laws_markText_h4_eq, if_neg (by omega), if_pos (by have : (ByteArray.mk (Array.mk (List.cons 109 []))).size = 1 := rfl; omega)]
  | succ d ih =>
    intro n acc hn hb ha
    by_cases h0 : n = 0
    · subst h0
      refine ⟨catS (ByteArray.mk (Array.mk (List.cons 109 []))) acc, ev_last fun k => ?_⟩
      rw [laws_markText_h4_eq, if_neg (by omega), if_pos (by have : (ByteArray.mk (Array.mk (List.cons 109 []))).size = 1 := rfl; omega)]
    · have hd : Int.tdiv (n : Int) 10 = ((n / 10 : Nat) : Int) := by rw [Int.tdiv_eq_ediv_of_nonneg (by omega)]; omega
      obtain ⟨r, hr⟩ := ih (n / 10) (catS (bytesOf [IntKind.wrap .u8 (wrap64 (48 + Int.tmod (n : Int) 10))]) acc) (by
        rw [Nat.pow_succ] at hn; omega) (by omega) (by
        rw [catS_size0]
        have : (bytesOf [IntKind.wrap .u8 (wrap64 (48 + Int.tmod (n : Int) 10))]).size = 1 := rfl
        omega)
      refine ⟨r, ev_shift ?_⟩
      simp only [laws_markText_h4_eq, ev_ite_iff, hd, wrap_i64 (x := ((n / 10 : Nat) : Int)) (by omega) (by omega)]
      have : (bytesOf [IntKind.wrap .u8 (wrap64 (48 + Int.tmod (n : Int) 10))]).size = 1 := rfl
      rw [if_pos (by omega), if_pos (by omega)]
      exact hr
theorem mark_ex2 (n : Int) (hn : n ≤ 4611686018427387904) : ∃ r, Ev (fun k => laws_markText k n) r := by
  by_cases h : n ≤ 0
  · exact ⟨_, ev_congr (fun k => laws_markText_eq k n) (ev_if_pos h (ev_some _))⟩
  · obtain ⟨r, hr⟩ := mt_ex2 19 n.toNat (ByteArray.mk (Array.mk [])) (by omega) (by omega) (by have : (ByteArray.mk (Array.mk [])).size = 0 := rfl; omega)
    refine ⟨r, ev_congr (fun k => laws_markText_eq k n) (ev_if_neg h ?_)⟩
    rw [show ((n.toNat : Nat) : Int) = n by omega] at hr
    exact hr

/-! ### mtx2 -/
open Classical in
noncomputable def mty (n : Int) : ByteArray := if h : ∃ r, Ev (fun k => laws_markText k n) r then Classical.choose h else ByteArray.mk (Array.mk [])
theorem mty_ev (n : Int) (hn : n ≤ 4611686018427387904) : Ev (fun k => laws_markText k n) (mty n) := by
  have h := mark_ex2 n hn
  unfold mty
  rw [dif_pos h]
  exact Classical.choose_spec h
theorem incsL (c : Int) (h0 : 0 ≤ c) (hm : c ≤ 4611686018427387904) : wrap64 (c + 1) = c + 1 ∧ wrap64 (c + 1 + 1) = c + 2 ∧ wrap64 (c + 2 + 1) = c + 3 ∧ wrap64 (c + 3 + 1) = c + 4 ∧ wrap64 (c + 4 + 1) = c + 5 ∧ wrap64 (c + 5 + 1) = c + 6 :=
  ⟨by rw [wrap_of (by omega) (by omega)], by rw [wrap_of (by omega) (by omega)]; omega, by rw [wrap_of (by omega) (by omega)]; omega, by rw [wrap_of (by omega) (by omega)]; omega, by rw [wrap_of (by omega) (by omega)]; omega, by rw [wrap_of (by omega) (by omega)]; omega⟩

/-! ### markstore -/
/-! marks on stores -/
noncomputable def emRec (m : Int) : RecT := (mty m, (mty (m + 1), ((m + 2, m + 3, decide (Int.tmod (m + 4) 3 = 0)), m + 5)))
theorem upRec {xs : List RecT} {n : Nat} {x : RecT} (hx : xs[n]? = some x) (v0 v1 : ByteArray) (v2 v3 : Int) (v4 : Bool) (v5 : Int) :
    upAt RecK [3] (.int .i64) v5 (upAt RecK [2, 2] .bool v4 (upAt RecK [2, 1] (.int .i64) v3 (upAt RecK [2, 0] (.int .i64) v2 (upAt RecK [1] .str v1 (upAt RecK [0] .str v0 xs (n : Int)) (n : Int)) (n : Int)) (n : Int)) (n : Int)) (n : Int)
      = xs.set n (v0, (v1, ((v2, v3, v4), v5))) := by
  have hn : n < xs.length := (List.getElem?_eq_some_iff.1 hx).1
  rw [upAt_get (e := RecK) (k := .str) (w := (v0, x.2)) hx rfl, upAt_set (e := RecK) (k := .str) (w := (v0, (v1, x.2.2))) hn rfl, upAt_set (e := RecK) (k := .int .i64) (w := (v0, (v1, ((v2, x.2.2.1.2), x.2.2.2)))) hn rfl, upAt_set (e := RecK) (k := .int .i64) (w := (v0, (v1, ((v2, v3, x.2.2.1.2.2), x.2.2.2)))) hn rfl, upAt_set (e := RecK) (k := .bool) (w := (v0, (v1, ((v2, v3, v4), x.2.2.2)))) hn rfl, upAt_set (e := RecK) (k := .int .i64) (w := (v0, (v1, ((v2, v3, v4), v5)))) hn rfl]
theorem upLenRec (p : List Nat) (k : Kind) (y : k.T) (l : List RecT) (i : Int) : @List.length RecT (upAt RecK p k y l i) = @List.length RecT l := upAt_len (e := RecK)
theorem markRecordS_ev (l : List RecT) (m : Int) (h0 : 0 ≤ m) (hm : m + 6 * l.length ≤ 4611686018427387904) : Ev (fun k => laws_markRecordS k l m) (mkList emRec m 6 l.length, m + 6 * (l.length : Int)) := by
  refine ev_congr (fun k => laws_markRecordS_eq k l m) ?_
  refine mark_loop (fun k l c i => laws_markRecordS_h2 k l c i) emRec m 6 l.length (fun k xs c hx => ?_) (fun n xs r hn hx H => ?_) l rfl
  · rw [laws_markRecordS_h2_eq, if_neg (by omega)]
  · obtain ⟨e1, e2, e3, e4, e5, e6⟩ := incsL (m + 6 * (n : Int)) (by omega) (by omega)
    have hnx : n < xs.length := by omega
    have hg : xs[n]? = some xs[n] := List.getElem?_eq_getElem hnx
    generalize xs[n] = x at hg
    have d2 : (n : Int) < (xs.length : Int) := by omega
    have d3 : (0 : Int) ≤ (n : Int) := by omega
    have e10 : m + 6 * (n : Int) + 6 = m + 6 * ((n + 1 : Nat) : Int) := by omega
    refine ev_shift ?_
    simp only [laws_markRecordS_h2_eq, ev_ite_iff, e1, e2, e3, e4, e5, e6, wrap_nat (show n < 9223372036854775807 by omega), upLenRec, if_pos d2, if_pos d3, ev_bind_iff (mty_ev (m + 6 * (n : Int)) (by omega)), ev_bind_iff (mty_ev (m + 6 * (n : Int) + 1) (by omega)), upRec hg, e10]
    exact H
noncomputable def emLook (m : Int) : LookT := (mty m, (mty (m + 1), (m + 2, m + 3, decide (Int.tmod (m + 4) 3 = 0))))
theorem upLook {xs : List LookT} {n : Nat} {x : LookT} (hx : xs[n]? = some x) (v0 v1 : ByteArray) (v2 v3 : Int) (v4 : Bool) :
    upAt LookK [2, 2] .bool v4 (upAt LookK [2, 1] (.int .i64) v3 (upAt LookK [2, 0] (.int .i64) v2 (upAt LookK [1] .str v1 (upAt LookK [0] .str v0 xs (n : Int)) (n : Int)) (n : Int)) (n : Int)) (n : Int)
      = xs.set n (v0, (v1, (v2, v3, v4))) := by
  have hn : n < xs.length := (List.getElem?_eq_some_iff.1 hx).1
  rw [upAt_get (e := LookK) (k := .str) (w := (v0, x.2)) hx rfl, upAt_set (e := LookK) (k := .str) (w := (v0, (v1, x.2.2))) hn rfl, upAt_set (e := LookK) (k := .int .i64) (w := (v0, (v1, (v2, x.2.2.2)))) hn rfl, upAt_set (e := LookK) (k := .int .i64) (w := (v0, (v1, (v2, v3, x.2.2.2.2)))) hn rfl, upAt_set (e := LookK) (k := .bool) (w := (v0, (v1, (v2, v3, v4)))) hn rfl]
theorem upLenLook (p : List Nat) (k : Kind) (y : k.T) (l : List LookT) (i : Int) : @List.length LookT (upAt LookK p k y l i) = @List.length LookT l := upAt_len (e := LookK)
theorem markLookS_ev (l : List LookT) (m : Int) (h0 : 0 ≤ m) (hm : m + 5 * l.length ≤ 4611686018427387904) : Ev (fun k => laws_markLookS k l m) (mkList emLook m 5 l.length, m + 5 * (l.length : Int)) := by
  refine ev_congr (fun k => laws_markLookS_eq k l m) ?_
  refine mark_loop (fun k l c i => laws_markLookS_h2 k l c i) emLook m 5 l.length (fun k xs c hx => ?_) (fun n xs r hn hx H => ?_) l rfl
  · rw [laws_markLookS_h2_eq, if_neg (by omega)]
  · obtain ⟨e1, e2, e3, e4, e5, e6⟩ := incsL (m + 5 * (n : Int)) (by omega) (by omega)
    have hnx : n < xs.length := by omega
    have hg : xs[n]? = some xs[n] := List.getElem?_eq_getElem hnx
    generalize xs[n] = x at hg
    have d2 : (n : Int) < (xs.length : Int) := by omega
    have d3 : (0 : Int) ≤ (n : Int) := by omega
    have e10 : m + 5 * (n : Int) + 5 = m + 5 * ((n + 1 : Nat) : Int) := by omega
    refine ev_shift ?_
    simp only [laws_markLookS_h2_eq, ev_ite_iff, e1, e2, e3, e4, e5, e6, wrap_nat (show n < 9223372036854775807 by omega), upLenLook, if_pos d2, if_pos d3, ev_bind_iff (mty_ev (m + 5 * (n : Int)) (by omega)), ev_bind_iff (mty_ev (m + 5 * (n : Int) + 1) (by omega)), upLook hg, e10]
    exact H
noncomputable def emCell (m : Int) : CellT := (mty m, mty (m + 1))
theorem upCell {xs : List CellT} {n : Nat} {x : CellT} (hx : xs[n]? = some x) (v0 v1 : ByteArray) :
    upAt CellK [1] .str v1 (upAt CellK [0] .str v0 xs (n : Int)) (n : Int) = xs.set n (v0, v1) := by
  have hn : n < xs.length := (List.getElem?_eq_some_iff.1 hx).1
  rw [upAt_get (e := CellK) (k := .str) (w := (v0, x.2)) hx rfl, upAt_set (e := CellK) (k := .str) (w := (v0, v1)) hn rfl]
theorem upLenCell (p : List Nat) (k : Kind) (y : k.T) (l : List CellT) (i : Int) : @List.length CellT (upAt CellK p k y l i) = @List.length CellT l := upAt_len (e := CellK)
theorem markCellS_ev (l : List CellT) (m : Int) (h0 : 0 ≤ m) (hm : m + 2 * l.length ≤ 4611686018427387904) : Ev (fun k => laws_markCellS k l m) (mkList emCell m 2 l.length, m + 2 * (l.length : Int)) := by
  refine ev_congr (fun k => laws_markCellS_eq k l m) ?_
  refine mark_loop (fun k l c i => laws_markCellS_h2 k l c i) emCell m 2 l.length (fun k xs c hx => ?_) (fun n xs r hn hx H => ?_) l rfl
  · rw [laws_markCellS_h2_eq, if_neg (by omega)]
  · obtain ⟨e1, e2, e3, e4, e5, e6⟩ := incsL (m + 2 * (n : Int)) (by omega) (by omega)
    have hnx : n < xs.length := by omega
    have hg : xs[n]? = some xs[n] := List.getElem?_eq_getElem hnx
    generalize xs[n] = x at hg
    have d2 : (n : Int) < (xs.length : Int) := by omega
    have d3 : (0 : Int) ≤ (n : Int) := by omega
    have e10 : m + 2 * (n : Int) + 2 = m + 2 * ((n + 1 : Nat) : Int) := by omega
    refine ev_shift ?_
    simp only [laws_markCellS_h2_eq, ev_ite_iff, e1, e2, e3, e4, e5, e6, wrap_nat (show n < 9223372036854775807 by omega), upLenCell, if_pos d2, if_pos d3, ev_bind_iff (mty_ev (m + 2 * (n : Int)) (by omega)), ev_bind_iff (mty_ev (m + 2 * (n : Int) + 1) (by omega)), upCell hg, e10]
    exact H
def emI (m : Int) : Int := m
theorem markIntS_ev (l : List Int) (m : Int) (h0 : 0 ≤ m) (hm : m + l.length ≤ 4611686018427387904) : Ev (fun k => laws_markIntS k l m) (mkList emI m 1 l.length, m + 1 * (l.length : Int)) := by
  refine ev_congr (fun k => laws_markIntS_eq k l m) ?_
  refine mark_loop (fun k l c i => laws_markIntS_h2 k l c i) emI m 1 l.length (fun k xs c hx => ?_) (fun n xs r hn hx H => ?_) l rfl
  · rw [laws_markIntS_h2_eq, if_neg (by omega)]
  · have e1 : wrap64 (m + 1 * (n : Int) + 1) = m + 1 * ((n + 1 : Nat) : Int) := by rw [wrap_of (by omega) (by omega)]; omega
    have d2 : (n : Int) < (xs.length : Int) := by omega
    have d3 : (0 : Int) ≤ (n : Int) := by omega
    refine ev_shift ?_
    simp only [laws_markIntS_h2_eq, ev_ite_iff, e1, wrap_nat (show n < 9223372036854775807 by omega), if_pos d2, if_pos d3, Int.toNat_natCast]
    exact H
/-- the marks of a running transaction -/
noncomputable def emRun (x : RunT) (m : Int) : RunT :=
  (m, (m + 1, (mkList emLook (m + 2) 5 x.2.2.1.length, (mkList emCell (m + 2 + 5 * (x.2.2.1.length : Int)) 2 x.2.2.2.1.length,
    (m + 2 + 5 * (x.2.2.1.length : Int) + 2 * (x.2.2.2.1.length : Int), m + 2 + 5 * (x.2.2.1.length : Int) + 2 * (x.2.2.2.1.length : Int) + 1, decide (Int.tmod (m + 2 + 5 * (x.2.2.1.length : Int) + 2 * (x.2.2.2.1.length : Int) + 2) 3 = 0))))))
def nxRun (x : RunT) (m : Int) : Int := m + 2 + 5 * (x.2.2.1.length : Int) + 2 * (x.2.2.2.1.length : Int) + 3
noncomputable def runMarks : List RunT → Int → List RunT
  | [], _ => [] | x :: l, m => emRun x m :: runMarks l (nxRun x m)
def runEnd : List RunT → Int → Int
  | [], m => m | x :: l, m => runEnd l (nxRun x m)
theorem upRun2 {xs : List RunT} {n : Nat} {x : RunT} (hx : xs[n]? = some x) (v0 v1 : Int) :
    upAt RunK [1] (.int .i64) v1 (upAt RunK [0] (.int .i64) v0 xs (n : Int)) (n : Int) = xs.set n (v0, (v1, x.2.2)) := by
  have hn : n < xs.length := (List.getElem?_eq_some_iff.1 hx).1
  rw [upAt_get (e := RunK) (k := .int .i64) (w := (v0, x.2)) hx rfl, upAt_set (e := RunK) (k := .int .i64) (w := (v0, (v1, x.2.2))) hn rfl]
theorem upRun3 {xs : List RunT} {n : Nat} {x : RunT} (hn : n < xs.length) (v0 v1 : Int) (v2 : Bool) :
    upAt RunK [4, 2] .bool v2 (upAt RunK [4, 1] (.int .i64) v1 (upAt RunK [4, 0] (.int .i64) v0 (xs.set n x) (n : Int)) (n : Int)) (n : Int) = xs.set n (x.1, (x.2.1, (x.2.2.1, (x.2.2.2.1, (v0, v1, v2))))) := by
  rw [upAt_set (e := RunK) (k := .int .i64) (w := (x.1, (x.2.1, (x.2.2.1, (x.2.2.2.1, (v0, x.2.2.2.2.2)))))) hn rfl, upAt_set (e := RunK) (k := .int .i64) (w := (x.1, (x.2.1, (x.2.2.1, (x.2.2.2.1, (v0, v1, x.2.2.2.2.2.2)))))) hn rfl, upAt_set (e := RunK) (k := .bool) (w := (x.1, (x.2.1, (x.2.2.1, (x.2.2.2.1, (v0, v1, v2)))))) hn rfl]
theorem upLenRun (p : List Nat) (k : Kind) (y : k.T) (l : List RunT) (i : Int) : @List.length RunT (upAt RunK p k y l i) = @List.length RunT l := upAt_len (e := RunK)
theorem markRun_loop (l : List RunT) (hB : ∀ x ∈ l, szBRunning x) (xs : List RunT) (c : Int) (n : Nat) (hlen : xs.length = n + l.length) (hl : xs.length ≤ 1048576) (hd : xs.drop n = l) (h0 : 0 ≤ c) (hc : c + 7340037 * (l.length : Int) ≤ 4611686018427387904) :
    Ev (fun k => laws_markRunningS_h2 k xs c (n : Int)) (xs.take n ++ runMarks l c, runEnd l c) := by
  induction l generalizing xs c n with
  | nil =>
    simp at hlen
    refine ev_last fun k => ?_
    rw [laws_markRunningS_h2_eq, if_neg (by omega)]
    simp only [runMarks, runEnd, List.append_nil]
    rw [List.take_of_length_le (by omega)]
  | cons x l ih =>
    simp only [List.length_cons] at hlen hc
    have hnx : n < xs.length := by omega
    have hg : xs[n]? = some x := by
      have := congrArg (fun z : List RunT => z[0]?) hd
      simpa only [List.getElem?_drop, Nat.add_zero, List.getElem?_cons_zero] using this
    obtain ⟨⟨s1, _⟩, s2, _⟩ := hB x (by simp)
    obtain ⟨e1, e2, -, -, -, -⟩ := incsL c (by omega) (by omega)
    have m1 := markLookS_ev x.2.2.1 (c + 2) (by omega) (by omega)
    have m2 := markCellS_ev x.2.2.2.1 (c + 2 + 5 * (x.2.2.1.length : Int)) (by omega) (by omega)
    obtain ⟨f1, f2, f3, -, -, -⟩ := incsL (c + 2 + 5 * (x.2.2.1.length : Int) + 2 * (x.2.2.2.1.length : Int)) (by omega) (by omega)
    have H := ih (fun y hy => hB y (by simp [hy])) (xs.set n (emRun x c)) (nxRun x c) (n + 1) (by simp; omega) (by simpa using hl) (by
      rw [List.drop_set_of_lt (by omega), ← List.tail_drop, hd]; rfl) (by unfold nxRun; omega) (by unfold nxRun; omega)
    have htk : (xs.set n (emRun x c)).take (n + 1) ++ runMarks l (nxRun x c) = xs.take n ++ runMarks (x :: l) c := by
      rw [take_snoc (x := emRun x c) (List.getElem?_set_self hnx), List.take_set_of_le (by omega)]
      simp [runMarks]
    rw [htk] at H
    have d2 : (n : Int) < (xs.length : Int) := by omega
    have d3 : (0 : Int) ≤ (n : Int) := by omega
    have hq : emRun x c = (c, (c + 1, (mkList emLook (c + 2) 5 x.2.2.1.length, (mkList emCell (c + 2 + 5 * (x.2.2.1.length : Int)) 2 x.2.2.2.1.length,
      (c + 2 + 5 * (x.2.2.1.length : Int) + 2 * (x.2.2.2.1.length : Int), c + 2 + 5 * (x.2.2.1.length : Int) + 2 * (x.2.2.2.1.length : Int) + 1, decide (Int.tmod (c + 2 + 5 * (x.2.2.1.length : Int) + 2 * (x.2.2.2.1.length : Int) + 2) 3 = 0)))))) := rfl
    have hx2 : nxRun x c = c + 2 + 5 * (x.2.2.1.length : Int) + 2 * (x.2.2.2.1.length : Int) + 3 := rfl
    rw [hq, hx2] at H
    generalize mkList emLook (c + 2) 5 x.2.2.1.length = q1 at m1 H
    generalize mkList emCell (c + 2 + 5 * (x.2.2.1.length : Int)) 2 x.2.2.2.1.length = q2 at m2 H
    refine ev_shift ?_
    clear ih hd hB htk
    have g1 : ((xs.set n (c, (c + 1, x.2.2))) : List RunT)[n]? = some (c, (c + 1, x.2.2)) := List.getElem?_set_self hnx
    have g2 : ((xs.set n (c, (c + 1, (q1, x.2.2.2)))) : List RunT)[n]? = some (c, (c + 1, (q1, x.2.2.2))) := List.getElem?_set_self hnx
    simp only [laws_markRunningS_h2_eq, ev_ite_iff, e1, e2, upLenRun, upRun2 hg, rdT_get (e := RunK) g1, ev_bind_iff m1, Int.toNat_natCast, List.length_set, List.set_set, rdT_get (e := RunK) g2, ev_bind_iff m2, f1, f2, f3, upRun3 hnx, wrap_nat (show n < 9223372036854775807 by omega), if_pos d2, if_pos d3]
    exact H
theorem markRunningS_ev (l : List RunT) (hl : l.length ≤ 1048576) (hB : ∀ x ∈ l, szBRunning x) (c : Int) (h0 : 0 ≤ c) (hc : c ≤ 1073741824) : Ev (fun k => laws_markRunningS k l c) (runMarks l c, runEnd l c) := by
  refine ev_congr (fun k => laws_markRunningS_eq k l c) ?_
  have := markRun_loop l hB l c 0 (by simp) hl (by simp) h0 (by omega)
  simpa using this
theorem runEnd_le : ∀ (l : List RunT) (c : Int), (∀ x ∈ l, szBRunning x) → c ≤ runEnd l c ∧ runEnd l c ≤ c + 7340037 * (l.length : Int)
  | [], c, _ => by simp [runEnd]
  | x :: l, c, hB => by
    obtain ⟨⟨s1, _⟩, s2, _⟩ := hB x (by simp)
    have := runEnd_le l (nxRun x c) fun y hy => hB y (by simp [hy])
    simp only [runEnd, List.length_cons]
    unfold nxRun at this ⊢
    omega
theorem markStore_ev (s : StoreT) (hs : szBStore s) : Ev (fun k => laws_markStore k s.1 s.2.1 s.2.2.1 s.2.2.2 1)
    (mkList emRec 1 6 s.2.1.length, (runMarks s.2.2.1 (1 + 6 * (s.2.1.length : Int)), (mkList emI (runEnd s.2.2.1 (1 + 6 * (s.2.1.length : Int))) 1 s.2.2.2.length, runEnd s.2.2.1 (1 + 6 * (s.2.1.length : Int)) + 1 * (s.2.2.2.length : Int)))) := by
  obtain ⟨⟨a1, a2⟩, ⟨b1, b2⟩, c1⟩ := hs
  have hr := runEnd_le s.2.2.1 (1 + 6 * (s.2.1.length : Int)) b2
  have m1 := markRecordS_ev s.2.1 1 (by omega) (by omega)
  have m2 := markRunningS_ev s.2.2.1 b1 b2 (1 + 6 * (s.2.1.length : Int)) (by omega) (by omega)
  have m3 := markIntS_ev s.2.2.2 (runEnd s.2.2.1 (1 + 6 * (s.2.1.length : Int))) (by omega) (by omega)
  exact ev_congr (fun k => laws_markStore_eq k s.1 s.2.1 s.2.2.1 s.2.2.2 1) (ev_bind m1 (ev_bind m2 (ev_bind m3 (ev_some _))))
theorem markStore_end (s : StoreT) (hs : szBStore s) : 0 ≤ runEnd s.2.2.1 (1 + 6 * (s.2.1.length : Int)) + 1 * (s.2.2.2.length : Int) := by
  have hr := runEnd_le s.2.2.1 (1 + 6 * (s.2.1.length : Int)) hs.2.1.2
  omega

/-! ### heldcell -/
theorem heldCellS_ev (m : Int) (N : Nat) (h0 : 0 ≤ m) (hm : m + 2 * N ≤ 4611686018427387904) : Ev (fun k => laws_heldCellS k (mkList emCell m 2 N) m) (m + 2 * (N : Int)) := by
  refine ev_congr (fun k => laws_heldCellS_eq k _ m) ?_
  have hl := mkList_len emCell m 2 N
  refine held_loop (fun k c i => laws_heldCellS_h2 k (mkList emCell m 2 N) c i) emCell m 2 N (fun k c => ?_) (fun n r hn hx H => ?_)
  · rw [laws_heldCellS_h2_eq, if_neg (by omega)]
  · obtain ⟨e1, e2, e3, e4, e5, e6⟩ := incsL (m + 2 * (n : Int)) (by omega) (by omega)
    have d1 : (n : Int) < ((mkList emCell m 2 N).length : Int) := by omega
    have d3 : (0 : Int) ≤ (n : Int) := by omega
    have e10 : m + 2 * (n : Int) + 2 = m + 2 * ((n + 1 : Nat) : Int) := by omega
    refine ev_shift ?_
    simp only [laws_heldCellS_h2_eq, ev_ite_iff, ev_some_iff, ev_none_iff, e1, e2, wrap_nat (show n < 9223372036854775807 by omega), rdT_get (e := CellK) hx, if_pos d1, if_pos d3, ev_bind_iff (mty_ev (m + 2 * (n : Int)) (by omega)), ev_bind_iff (mty_ev (m + 2 * (n : Int) + 1) (by omega)), emCell, e10]
    simpa using H

/-! ### cells -/
/-! cells that are put in their places, looked up -/
def putC : List CellT → CellT → List CellT
  | [], x => [x]
  | y :: l, x => if lessS y.1 x.1 = true then y :: putC l x else if y.1 = x.1 then x :: l else x :: y :: l
def valC : List CellT → ByteArray → ByteArray
  | [], _ => ⟨#[]⟩
  | y :: l, key => if y.1 = key then y.2 else valC l key
theorem putC_len : ∀ (l : List CellT) (x : CellT), (putC l x).length ≤ l.length + 1
  | [], x => by simp [putC]
  | y :: l, x => by
    have := putC_len l x
    simp only [putC]
    split
    · simp only [List.length_cons]; omega
    · split <;> simp
theorem valC_put (key : ByteArray) : ∀ (l : List CellT) (x : CellT), valC (putC l x) key = if x.1 = key then x.2 else valC l key
  | [], x => by simp [putC, valC]
  | y :: l, x => by
    have ih := valC_put key l x
    simp only [putC]
    by_cases h : lessS y.1 x.1 = true
    · rw [if_pos h]
      simp only [valC, ih]
      by_cases h1 : y.1 = key
      · have : x.1 ≠ key := fun e => by rw [h1, e, lessS_irrefl] at h; cases h
        rw [if_pos h1, if_neg this, if_pos h1]
      · rw [if_neg h1, if_neg h1]
    · rw [if_neg h]
      by_cases h2 : y.1 = x.1
      · rw [if_pos h2]
        simp only [valC]
        by_cases h3 : x.1 = key
        · rw [if_pos h3, if_pos h3]
        · rw [if_neg h3, if_neg h3, if_neg (by rw [h2]; exact h3)]
      · rw [if_neg h2]
        simp only [valC]
theorem l3Cells_ev (l : List CellT) (x : CellT) (hl : l.length ≤ 1099511627776) : Ev (fun k => spec_l3Cells k l x) (putC l x) := by
  have h9 : ∀ (n : Nat) (acc : List CellT), n ≤ l.length → acc.length ≤ l.length + 1 → Ev (fun k => spec_l3Cells_h9 k l (n : Int) acc) (acc ++ l.drop n) := by
    intro n acc hn ha
    refine ev_shift ?_
    have hs : List.drop (Int.toNat (n : Int)) (List.take (Int.toNat ((l.length : Nat) : Int)) l) = l.drop n := by simp
    simp only [spec_l3Cells_h9_eq, ev_ite_iff, ev_some_iff, ev_none_iff, hs]
    rw [if_pos (by omega), if_pos (by omega), if_pos (by rw [List.length_drop]; omega)]
    trivial
  have key := drop_ind l (fun n rest => Ev (fun k => spec_l3Cells_h2 k l x (n : Int)) (l.take n ++ putC rest x)) ?_ ?_
  · refine ev_congr (fun k => spec_l3Cells_eq k l x) ?_
    have := key 0 (Nat.zero_le _)
    simpa using this
  · refine ev_shift ?_
    have hs : List.drop (Int.toNat 0) (List.take (Int.toNat ((l.length : Nat) : Int)) l) = l := by simp
    have := h9 l.length (([] ++ l) ++ List.cons x []) (Nat.le_refl _) (by simp)
    simp only [spec_l3Cells_h2_eq, ev_ite_iff, ev_none_iff, hs]
    rw [if_neg (by omega), if_pos (by omega), if_pos (by omega), if_pos (by omega), if_pos (by simp; omega), if_neg (by omega)]
    simpa [putC] using this
  · intro n y rest hn hy hd ih
    have q0 : (0 : Int) ≤ (n : Int) := by omega
    have q1 : (n : Int) < (l.length : Int) := by omega
    have hs : List.drop (Int.toNat 0) (List.take (Int.toNat (n : Int)) l) = l.take n := by simp
    have hlt : (l.take n).length = n := by simp; omega
    refine ev_shift ?_
    simp only [spec_l3Cells_h2_eq, rdT_get (e := CellK) hy, wrap_nat (show n < 9223372036854775807 by omega), ev_ite_iff, ev_none_iff, hs]
    rw [if_pos q1, if_pos q0, if_pos q1]
    simp only [putC]
    by_cases h : lessS y.1 x.1 = true
    · rw [if_pos h, if_pos h]
      rw [take_snoc hy] at ih
      simpa using ih
    · rw [if_neg h, if_neg h, if_pos q0, if_pos (by omega), if_pos (by rw [hlt]; omega), if_pos (by simp; omega), if_pos q1, if_pos q0, if_pos q1]
      by_cases h2 : y.1 = x.1
      · rw [if_pos h2, if_pos h2]
        have := h9 (n + 1) (([] ++ l.take n) ++ List.cons x []) hn (by simp; omega)
        rw [drop_next hd] at this
        simpa using this
      · rw [if_neg h2, if_neg h2]
        have := h9 n (([] ++ l.take n) ++ List.cons x []) (by omega) (by simp; omega)
        rw [hd] at this
        simpa using this
theorem mgetSS_put : ∀ (m : List (ByteArray × ByteArray)) (n v x : ByteArray), mgetT .str .str (mputT .str .str m n v) x = if n = x then v else mgetT .str .str m x
  | [], n, v, x => by
    by_cases h : n = x
    · subst h; simp [mgetT, mputT, mfind, eqT, zeroT]
    · simp [mgetT, mputT, mfind, eqT, h, zeroT, Ne.symm h]
  | p :: m, n, v, x => by
    have ih := mgetSS_put m n v x
    simp only [mgetT, mputT, mfind, eqT] at ih ⊢
    by_cases h1 : n = p.1 <;> by_cases h2 : x = p.1 <;> by_cases h3 : n = x <;> simp_all [mfind, eqT]

/-! ### cellsmap -/
/-! cells by a map's keys -/
theorem bl_lt : ∀ (x y : List UInt8), Op.bytesLess x y = decide (x < y)
  | [], [] => by simp [Op.bytesLess]
  | _ :: _, [] => by simp [Op.bytesLess]
  | [], _ :: _ => by simp [Op.bytesLess]
  | a :: x, b :: y => by
    rw [Op.bytesLess, bl_lt x y]
    simp only [List.cons_lt_cons_iff]
    by_cases h1 : a < b <;> by_cases h2 : a = b <;> by_cases h3 : x < y <;> simp [h1, h2, h3]
theorem lessS_lt (a b : ByteArray) : lessS a b = true ↔ a.data.toList < b.data.toList := by
  unfold lessS
  rw [ByteArray.toList_eq, ByteArray.toList_eq, bl_lt, decide_eq_true_eq]
theorem skeys_some (m : List CellT) (hnd : (m.map Prod.fst).Nodup) (hsz : ∀ x ∈ m.map Prod.fst, x.size ≤ maxLen) (hl : m.length ≤ 8796093022208) :
    ∃ ks, gvSKeys .str m = some ks ∧ ks.Pairwise (fun a b => lessS a b = true) ∧ (∀ x, x ∈ ks ↔ x ∈ m.map Prod.fst) ∧ ks.length = m.length := by
  have hperm : ((((m.map Prod.fst).map fun x : ByteArray => x.data.toList).mergeSort leB).map fun x => (⟨x.toArray⟩ : ByteArray)).Perm (m.map Prod.fst) := by
    refine ((List.mergeSort_perm _ leB).map _).trans ?_
    rw [List.map_map]
    rw [show ((fun x : List UInt8 => (⟨x.toArray⟩ : ByteArray)) ∘ fun x : ByteArray => x.data.toList) = id from by funext x; simp]
    simp
  refine ⟨_, ?_, ?_, fun x => hperm.mem_iff, by rw [hperm.length_eq]; simp⟩
  · unfold gvSKeys gvKeys
    rw [if_pos ⟨hsz, by rw [List.length_map]; exact hl, hnd⟩]
  · have tr : ∀ a b c : List UInt8, leB a b = true → leB b c = true → leB a c = true := fun a b c h1 h2 => by simp only [leB, decide_eq_true_eq] at *; exact List.le_trans h1 h2
    have to : ∀ a b : List UInt8, (leB a b || leB b a) = true := fun a b => by simp only [leB, Bool.or_eq_true, decide_eq_true_eq]; exact List.le_total a b
    have h1 := List.pairwise_mergeSort tr to ((m.map Prod.fst).map fun x : ByteArray => x.data.toList)
    have h2 : (((m.map Prod.fst).map fun x : ByteArray => x.data.toList).mergeSort leB).Nodup := (List.mergeSort_perm _ leB).nodup_iff.2 (List.pairwise_map.2 (hnd.imp fun {a b} hab e => hab (Go.WideShapes.bytes_inj e)))
    refine List.pairwise_map.2 ((h1.and h2).imp fun {a b} h => ?_)
    rw [lessS_lt]
    have hle : a ≤ b := by simpa [leB] using h.1
    show a < b
    rcases List.le_iff_lt_or_eq.1 hle with h3 | h3
    · exact h3
    · exact absurd h3 h.2
def sortC (c : List CellT) : Prop := c.Pairwise fun a b => lessS a.1 b.1 = true
theorem lessS_tot {a b : ByteArray} (h : ¬ lessS a b = true) (hne : a ≠ b) : lessS b a = true := by
  rw [lessS_lt] at h ⊢
  rcases List.le_iff_lt_or_eq.1 (List.not_lt.1 h) with h3 | h3
  · exact h3
  · exact absurd (Go.WideShapes.bytes_inj h3).symm hne
theorem putC_mem : ∀ (c : List CellT) (x y : CellT), sortC c → (y ∈ putC c x ↔ y = x ∨ (y ∈ c ∧ y.1 ≠ x.1))
  | [], x, y, _ => by simp [putC]
  | z :: c, x, y, hs => by
    obtain ⟨h1, h2⟩ := List.pairwise_cons.1 hs
    have ih := putC_mem c x y h2
    simp only [putC]
    by_cases ha : lessS z.1 x.1 = true
    · have hne : z.1 ≠ x.1 := fun e => by rw [e, lessS_irrefl] at ha; cases ha
      rw [if_pos ha, List.mem_cons, ih, List.mem_cons]
      constructor
      · rintro (rfl | h | ⟨h, h'⟩)
        · exact .inr ⟨.inl rfl, hne⟩
        · exact .inl h
        · exact .inr ⟨.inr h, h'⟩
      · rintro (h | ⟨rfl | h, h'⟩)
        · exact .inr (.inl h)
        · exact .inl rfl
        · exact .inr (.inr ⟨h, h'⟩)
    · rw [if_neg ha]
      by_cases hb : z.1 = x.1
      · rw [if_pos hb, List.mem_cons, List.mem_cons]
        constructor
        · rintro (h | h)
          · exact .inl h
          · refine .inr ⟨.inr h, fun e => ?_⟩
            have := h1 y h
            rw [hb, e, lessS_irrefl] at this; cases this
        · rintro (h | ⟨rfl | h, h'⟩)
          · exact .inl h
          · exact absurd hb h'
          · exact .inr h
      · rw [if_neg hb, List.mem_cons]
        have hx : lessS x.1 z.1 = true := lessS_tot ha hb
        constructor
        · rintro (h | h)
          · exact .inl h
          · refine .inr ⟨h, fun e => ?_⟩
            rcases List.mem_cons.1 h with rfl | h
            · exact hb e
            · have := lessS_trans hx (h1 y h)
              rw [e, lessS_irrefl] at this; cases this
        · rintro (h | ⟨h, _⟩)
          · exact .inl h
          · exact .inr h
theorem putC_sort : ∀ (c : List CellT) (x : CellT), sortC c → sortC (putC c x)
  | [], x, _ => by simp [putC, sortC]
  | z :: c, x, hs => by
    obtain ⟨h1, h2⟩ := List.pairwise_cons.1 hs
    have ih := putC_sort c x h2
    simp only [putC]
    by_cases ha : lessS z.1 x.1 = true
    · rw [if_pos ha]
      refine List.pairwise_cons.2 ⟨fun y hy => ?_, ih⟩
      rcases (putC_mem c x y h2).1 hy with rfl | ⟨h, _⟩
      · exact ha
      · exact h1 y h
    · rw [if_neg ha]
      by_cases hb : z.1 = x.1
      · rw [if_pos hb]
        exact List.pairwise_cons.2 ⟨fun y hy => by rw [← hb]; exact h1 y hy, h2⟩
      · rw [if_neg hb]
        refine List.pairwise_cons.2 ⟨fun y hy => ?_, hs⟩
        have hx : lessS x.1 z.1 = true := lessS_tot ha hb
        rcases List.mem_cons.1 hy with rfl | hy
        · exact hx
        · exact lessS_trans hx (h1 y hy)
theorem mput_keys : ∀ (m : List CellT) (k v : ByteArray) (x : ByteArray), x ∈ (mputT .str .str m k v).map Prod.fst ↔ x = k ∨ x ∈ m.map Prod.fst
  | [], k, v, x => by simp [mputT]
  | p :: m, k, v, x => by
    have ih := mput_keys m k v x
    by_cases h : k = p.1
    · subst h; simp [mputT, eqT]
    · simp only [mputT, eqT, decide_eq_true_eq, h, decide_false, cond_false, List.map_cons, List.mem_cons, ih]
      constructor
      · rintro (h | h | h)
        · exact .inr (.inl h)
        · exact .inl h
        · exact .inr (.inr h)
      · rintro (h | h | h)
        · exact .inr (.inl h)
        · exact .inl h
        · exact .inr (.inr h)
theorem mput_nodup : ∀ (m : List CellT) (k v : ByteArray), (m.map Prod.fst).Nodup → ((mputT .str .str m k v).map Prod.fst).Nodup
  | [], k, v, _ => by simp [mputT]
  | p :: m, k, v, h => by
    obtain ⟨h1, h2⟩ := List.nodup_cons.1 h
    have ih := mput_nodup m k v h2
    by_cases hk : k = p.1
    · subst hk; simpa [mputT, eqT] using ⟨by simpa using h1, h2⟩
    · simp only [mputT, eqT, decide_eq_true_eq, hk, decide_false, cond_false, List.map_cons]
      exact List.nodup_cons.2 ⟨fun hx => ((mput_keys m k v p.1).1 hx).elim (fun e => hk e.symm) h1, ih⟩
/-- the cells that a map tells -/
def toldC (c m : List CellT) : Prop := sortC c ∧ (m.map Prod.fst).Nodup ∧ (∀ x, x ∈ c.map Prod.fst ↔ x ∈ m.map Prod.fst) ∧ ∀ x ∈ c, mgetT .str .str m x.1 = x.2
theorem toldC.nil : toldC [] [] := ⟨List.Pairwise.nil, List.nodup_nil, by simp, by simp⟩
theorem toldC.put {c m : List CellT} (h : toldC c m) (k v : ByteArray) : toldC (putC c (k, v)) (mputT .str .str m k v) := by
  obtain ⟨h1, h2, h3, h4⟩ := h
  refine ⟨putC_sort c _ h1, mput_nodup m k v h2, fun x => ?_, fun x hx => ?_⟩
  · rw [mput_keys, ← h3 x]
    simp only [List.mem_map, putC_mem c (k, v) _ h1]
    constructor
    · rintro ⟨y, rfl | ⟨h, h'⟩, rfl⟩
      · exact .inl rfl
      · exact .inr ⟨y, h, rfl⟩
    · rintro (rfl | ⟨y, h, rfl⟩)
      · exact ⟨(x, v), .inl rfl, rfl⟩
      · by_cases he : y.1 = k
        · exact ⟨(k, v), .inl rfl, he.symm⟩
        · exact ⟨y, .inr ⟨h, he⟩, rfl⟩
  · rw [mgetSS_put]
    rcases (putC_mem c (k, v) x h1).1 hx with rfl | ⟨h, h'⟩
    · rw [if_pos rfl]
    · rw [if_neg (fun e => h' e.symm)]; exact h4 x h
theorem toldC.keys {c m : List CellT} (h : toldC c m) (hsz : ∀ x ∈ c.map Prod.fst, x.size ≤ maxLen) (hl : c.length ≤ 8796093022208) : gvSKeys .str m = some (c.map Prod.fst) := by
  obtain ⟨h1, h2, h3, h4⟩ := h
  have hcn : (c.map Prod.fst).Nodup := List.pairwise_map.2 (h1.imp fun {a b} h e => by rw [e, lessS_irrefl] at h; cases h)
  have hp : (c.map Prod.fst).Perm (m.map Prod.fst) := (List.perm_ext_iff_of_nodup hcn h2).2 h3
  have hlen : m.length = c.length := by have := hp.length_eq; simpa using this.symm
  obtain ⟨ks, e1, e2, e3, e4⟩ := skeys_some m h2 (fun x hx => hsz x ((h3 x).2 hx)) (by omega)
  rw [e1]
  congr 1
  refine List.Perm.eq_of_pairwise (le := fun a b => lessS a b = true) (fun a b _ _ h1 h2 => ?_) e2 (List.pairwise_map.2 h1) ((List.perm_ext_iff_of_nodup ?_ hcn).2 fun x => (e3 x).trans (h3 x).symm)
  · have := lessS_trans h1 h2
    rw [lessS_irrefl] at this; cases this
  · exact e2.imp fun {a b} h e => by rw [e, lessS_irrefl] at h; cases h

/-! ### replayorder -/
/-! what has been installed, in its order -/
def wrS (s : StoreT) (id : Int) : List CellT := (rdT RunK s.2.2.1 (id - 1)).2.2.2.1
def replC (s : StoreT) : List CellT → List Int → List CellT
  | c, [] => c
  | c, id :: l => replC s ((wrS s id).foldl putC c) l
def replM (s : StoreT) : List CellT → List Int → List CellT
  | m, [] => m
  | m, id :: l => replM s ((wrS s id).foldl (fun m w => mputT .str .str m w.1 w.2) m) l
theorem putsC_len : ∀ (ws c : List CellT), (ws.foldl putC c).length ≤ c.length + ws.length
  | [], c => by simp
  | x :: ws, c => by
    have h1 := putsC_len ws (putC c x)
    have h2 := putC_len c x
    simp only [List.foldl_cons, List.length_cons]
    omega
theorem told_puts : ∀ (ws c m : List CellT), toldC c m → toldC (ws.foldl putC c) (ws.foldl (fun m w => mputT .str .str m w.1 w.2) m)
  | [], c, m, h => h
  | x :: ws, c, m, h => told_puts ws _ _ (h.put x.1 x.2)
theorem told_repl (s : StoreT) : ∀ (l : List Int) (c m : List CellT), toldC c m → toldC (replC s c l) (replM s m l)
  | [], c, m, h => h
  | id :: l, c, m, h => told_repl s l _ _ (told_puts _ _ _ h)
theorem wrS_le {s : StoreT} (hs : szBStore s) {id : Int} (h : 1 ≤ id ∧ id ≤ (s.2.2.1.length : Int)) : (wrS s id).length ≤ 1048576 ∧ ∀ x ∈ wrS s id, x.1.size ≤ 1048576 := by
  obtain ⟨n, hn⟩ := Int.eq_ofNat_of_zero_le (show 0 ≤ id - 1 by omega)
  have hlt : n < s.2.2.1.length := by omega
  have hg : s.2.2.1[n]? = some s.2.2.1[n] := List.getElem?_eq_getElem hlt
  have e : wrS s id = s.2.2.1[n].2.2.2.1 := by
    unfold wrS
    rw [hn]
    exact congrArg (fun z : RunT => z.2.2.2.1) (rdT_get (e := RunK) hg)
  rw [e]
  have := (hs.2.1.2 _ (List.getElem_mem hlt)).2
  exact ⟨this.1, fun x hx => (this.2 x hx).1⟩
theorem puts_keys : ∀ (ws c : List CellT), (∀ x ∈ c.map Prod.fst, x.size ≤ 1048576) → (∀ x ∈ ws, x.1.size ≤ 1048576) → sortC c → ∀ x ∈ (ws.foldl putC c).map Prod.fst, x.size ≤ 1048576
  | [], c, h, _, _ => h
  | y :: ws, c, h, h', hs => by
    refine puts_keys ws (putC c y) (fun x hx => ?_) (fun x hx => h' x (by simp [hx])) (putC_sort c y hs)
    obtain ⟨z, hz, rfl⟩ := List.mem_map.1 hx
    rcases (putC_mem c y z hs).1 hz with rfl | ⟨hz, _⟩
    · exact h' _ (by simp)
    · exact h _ (List.mem_map.2 ⟨z, hz, rfl⟩)
theorem puts_sort : ∀ (ws c : List CellT), sortC c → sortC (ws.foldl putC c)
  | [], c, h => h
  | y :: ws, c, h => puts_sort ws _ (putC_sort c y h)
theorem repl_keys {s : StoreT} (hs : szBStore s) : ∀ (l : List Int) (c : List CellT), (∀ id ∈ l, 1 ≤ id ∧ id ≤ (s.2.2.1.length : Int)) → (∀ x ∈ c.map Prod.fst, x.size ≤ 1048576) → sortC c → ∀ x ∈ (replC s c l).map Prod.fst, x.size ≤ 1048576
  | [], c, _, h, _ => h
  | id :: l, c, hi, h, hc => repl_keys hs l _ (fun i h => hi i (by simp [h])) (puts_keys _ _ h (wrS_le hs (hi id (by simp))).2 hc) (puts_sort _ _ hc)
theorem repl_len {s : StoreT} (hs : szBStore s) : ∀ (l : List Int) (c : List CellT), (∀ id ∈ l, 1 ≤ id ∧ id ≤ (s.2.2.1.length : Int)) → (replC s c l).length ≤ c.length + l.length * 1048576
  | [], c, _ => by simp [replC]
  | id :: l, c, hi => by
    have h1 := repl_len hs l ((wrS s id).foldl putC c) (fun i h => hi i (by simp [h]))
    have h2 := putsC_len (wrS s id) c
    have h3 := (wrS_le hs (hi id (by simp))).1
    simp only [replC, List.length_cons]
    omega
theorem specIn_ev (s : StoreT) (ids : List Int) (L i : Int) (ws : List CellT) (hw : ws.length ≤ 1048576) {r : List CellT} : ∀ (rest : List CellT) (n : Nat) (c : List CellT), ws.drop n = rest → ws.length = n + rest.length → c.length + rest.length ≤ 1099511627776 →
    Ev (fun k => spec_l5Replay_h3 k s (rest.foldl putC c) ids L (wrap64 (i + 1))) r → Ev (fun k => spec_l5Replay_h6 k s c ids L i ws (ws.length : Int) (n : Int)) r
  | [], n, c, hd, hlen, hc, h => by
    simp at hlen
    refine ev_shift ?_
    simp only [spec_l5Replay_h6_eq, ev_ite_iff]
    rw [if_neg (by omega)]
    exact h
  | x :: rest, n, c, hd, hlen, hc, h => by
    simp only [List.length_cons] at hlen hc
    have hx : ws[n]? = some x := by
      have := congrArg (fun z : List CellT => z[0]?) hd
      simpa only [List.getElem?_drop, Nat.add_zero, List.getElem?_cons_zero] using this
    have hl := putC_len c x
    refine ev_shift ?_
    simp only [spec_l5Replay_h6_eq, ev_ite_iff, rdT_get (e := CellK) hx, ev_bind_iff (l3Cells_ev c x (by omega)), wrap_nat (show n < 9223372036854775807 by omega)]
    rw [if_pos (by omega), if_pos (by omega), if_pos (by omega)]
    exact specIn_ev s ids L i ws hw rest (n + 1) (putC c x) (drop_next hd) (by omega) (by omega) h
theorem specRepl_ev (s : StoreT) (hs : szBStore s) (ids : List Int) (hids : ∀ id ∈ ids, 1 ≤ id ∧ id ≤ (s.2.2.1.length : Int)) (hl : ids.length ≤ 1048576) : ∀ (rest : List Int) (n : Nat) (c : List CellT), ids.drop n = rest → ids.length = n + rest.length → c.length + rest.length * 1048576 ≤ 1099511627776 →
    Ev (fun k => spec_l5Replay_h3 k s c ids (ids.length : Int) (n : Int)) (replC s c rest)
  | [], n, c, hd, hlen, hc => by
    simp at hlen
    exact ev_last fun k => by rw [spec_l5Replay_h3_eq, if_neg (by omega)]; rfl
  | id :: rest, n, c, hd, hlen, hc => by
    simp only [List.length_cons] at hlen hc
    have hx : ids[n]? = some id := by
      have := congrArg (fun z : List Int => z[0]?) hd
      simpa only [List.getElem?_drop, Nat.add_zero, List.getElem?_cons_zero] using this
    have hi := hids id (List.mem_of_getElem? hx)
    have hw := (wrS_le hs hi).1
    have hp := putsC_len (wrS s id) c
    have ht := hs.2.1.1
    have w : wrap64 (id - 1) = id - 1 := wrap_of (by omega) (by omega)
    have e : (rdT RunK s.2.2.1 (id - 1)).2.2.2.1 = wrS s id := rfl
    refine ev_shift ?_
    simp only [spec_l5Replay_h3_eq, ev_ite_iff, rdT_get (e := .int .i64) hx, w]
    rw [if_pos (by omega), if_pos (by omega), if_pos (by omega), if_pos (by omega), if_pos (by omega)]
    refine specIn_ev s ids _ _ (wrS s id) hw (wrS s id) 0 c rfl (by simp) (by omega) ?_
    rw [wrap_nat (show n < 9223372036854775807 by omega)]
    exact specRepl_ev s hs ids hids hl rest (n + 1) _ (drop_next hd) (by omega) (by omega)
theorem implIn_ev (s : StoreT) (ids : List Int) (L i : Int) (ws : List CellT) (hw : ws.length ≤ 1048576) {r : List CellT × Bool} : ∀ (rest : List CellT) (n : Nat) (m : List CellT), ws.drop n = rest → ws.length = n + rest.length →
    Ev (fun k => impl_ReplayOrder_h5 k s (rest.foldl (fun m w => mputT .str .str m w.1 w.2) m) ids L (wrap64 (i + 1))) r → Ev (fun k => impl_ReplayOrder_h8 k s m ids L i ws (ws.length : Int) (n : Int)) r
  | [], n, m, hd, hlen, h => by
    simp at hlen
    refine ev_shift ?_
    simp only [impl_ReplayOrder_h8_eq, ev_ite_iff]
    rw [if_neg (by omega)]
    exact h
  | x :: rest, n, m, hd, hlen, h => by
    simp only [List.length_cons] at hlen
    have hx : ws[n]? = some x := by
      have := congrArg (fun z : List CellT => z[0]?) hd
      simpa only [List.getElem?_drop, Nat.add_zero, List.getElem?_cons_zero] using this
    refine ev_shift ?_
    simp only [impl_ReplayOrder_h8_eq, ev_ite_iff, rdT_get (e := CellK) hx, wrap_nat (show n < 9223372036854775807 by omega)]
    rw [if_pos (by omega), if_pos (by omega), if_pos (by omega)]
    exact implIn_ev s ids L i ws hw rest (n + 1) _ (drop_next hd) (by omega) h
theorem implRepl_ev (s : StoreT) (hs : szBStore s) (ids : List Int) (hids : ∀ id ∈ ids, 1 ≤ id ∧ id ≤ (s.2.2.1.length : Int)) (hl : ids.length ≤ 1048576) {r : List CellT} : ∀ (rest : List Int) (n : Nat) (m : List CellT), ids.drop n = rest → ids.length = n + rest.length →
    Ev (fun k => impl_cellsOf k (replM s m rest)) r → Ev (fun k => impl_ReplayOrder_h5 k s m ids (ids.length : Int) (n : Int)) (r, true)
  | [], n, m, hd, hlen, h => by
    simp at hlen
    refine ev_shift ?_
    simp only [impl_ReplayOrder_h5_eq, ev_ite_iff]
    rw [if_neg (by omega)]
    exact ev_bind h (ev_some _)
  | id :: rest, n, m, hd, hlen, h => by
    simp only [List.length_cons] at hlen
    have hx : ids[n]? = some id := by
      have := congrArg (fun z : List Int => z[0]?) hd
      simpa only [List.getElem?_drop, Nat.add_zero, List.getElem?_cons_zero] using this
    have hi := hids id (List.mem_of_getElem? hx)
    have hw := (wrS_le hs hi).1
    have ht := hs.2.1.1
    have w : wrap64 (id - 1) = id - 1 := wrap_of (by omega) (by omega)
    refine ev_shift ?_
    simp only [impl_ReplayOrder_h5_eq, ev_ite_iff, rdT_get (e := .int .i64) hx, w]
    rw [if_pos (by omega), if_pos (by omega), if_pos (by omega), if_pos (by omega), if_pos (by omega)]
    refine implIn_ev s ids _ _ (wrS s id) hw (wrS s id) 0 m rfl (by simp) ?_
    rw [wrap_nat (show n < 9223372036854775807 by omega)]
    exact implRepl_ev s hs ids hids hl rest (n + 1) _ (drop_next hd) (by omega) h
theorem cellsOf_ev (c m : List CellT) (h : toldC c m) (hsz : ∀ x ∈ c.map Prod.fst, x.size ≤ 1048576) (hl : c.length ≤ 1099511627776) : Ev (fun k => impl_cellsOf k m) c := by
  have hk := h.keys (fun x hx => Nat.le_trans (hsz x hx) (by decide)) (by omega)
  refine ev_congr (fun k => impl_cellsOf_eq k m) (ev_bind (a := c.map Prod.fst) (by rw [hk]; exact ev_some _) ?_)
  have key : ∀ (rest : List CellT) (n : Nat) (acc : List CellT), c.drop n = rest → c.length = n + rest.length → acc.length = n → Ev (fun k => impl_cellsOf_h3 k m acc (c.map Prod.fst) (((c.map Prod.fst).length : Nat) : Int) (n : Int)) (acc ++ rest) := by
    intro rest
    induction rest with
    | nil =>
      intro n acc hd hlen ha
      simp at hlen
      exact ev_last fun k => by rw [impl_cellsOf_h3_eq, if_neg (by simp; omega)]; simp
    | cons x rest ih =>
      intro n acc hd hlen ha
      simp only [List.length_cons] at hlen
      have hx : c[n]? = some x := by
        have := congrArg (fun z : List CellT => z[0]?) hd
        simpa only [List.getElem?_drop, Nat.add_zero, List.getElem?_cons_zero] using this
      have hx1 : (c.map Prod.fst)[n]? = some x.1 := by rw [List.getElem?_map, hx]; rfl
      have hm := h.2.2.2 x (List.mem_of_getElem? hx)
      have hcl : (c.map Prod.fst).length = c.length := by simp
      refine ev_shift ?_
      simp only [impl_cellsOf_h3_eq, ev_ite_iff, rdT_get (e := .str) hx1, hm, wrap_nat (show n < 9223372036854775807 by omega)]
      rw [if_pos (by omega), if_pos (by omega), if_pos (by omega), if_pos (by simp only [List.length_cons, List.length_nil]; omega)]
      have := ih (n + 1) (acc ++ [x]) (drop_next hd) (by omega) (by simp; omega)
      simpa using this
  simpa using key c 0 [] rfl (by simp) rfl
theorem replay_ev (s : StoreT) (n : Int) (hs : szBStore s) : ∃ r : List CellT × Bool, Ev (fun k => spec_ReplayOrder k s n) r ∧ Ev (fun k => impl_ReplayOrder k s n) r ∧ r.1.length ≤ 1099511627776 := by
  have b1 : Ev (fun k => spec_GoodStore k s) (storeS s) := storeS_ev s hs
  have b2 := storeI_ev s hs
  rw [← store_same s hs] at b2
  cases hg : storeS s with
  | false =>
    rw [hg] at b1 b2
    exact ⟨([], false), ev_congr (fun k => spec_ReplayOrder_eq k s n) (ev_bind b1 (ev_if_pos (by simp) (ev_some _))), ev_congr (fun k => impl_ReplayOrder_eq k s n) (ev_bind b2 (ev_if_pos (by simp) (ev_some _))), by simp⟩
  | true =>
    rw [hg] at b1 b2
    have hI : storeI s = true := by rw [← store_same s hs]; exact hg
    have hord : ∀ id ∈ s.2.2.2, 1 ≤ id ∧ id ≤ (s.2.2.1.length : Int) := by
      unfold storeI at hI
      simp only [Bool.and_eq_true, allFrom_iff] at hI
      intro id hid
      obtain ⟨i, hi⟩ := List.mem_iff_getElem?.1 hid
      have := hI.2.2.2.1 i id hi
      simp only [ordI, Bool.and_eq_true, decide_eq_true_eq] at this
      exact this.1
    by_cases hn : 0 ≤ n ∧ n ≤ (s.2.2.2.length : Int)
    · obtain ⟨q, hq⟩ := Int.eq_ofNat_of_zero_le hn.1
      subst hq
      have hcut : List.drop (Int.toNat 0) (List.take (Int.toNat ((q : Nat) : Int)) s.2.2.2) = s.2.2.2.take q := by simp
      have hids : ∀ id ∈ s.2.2.2.take q, 1 ≤ id ∧ id ≤ (s.2.2.1.length : Int) := fun id h => hord id (List.mem_of_mem_take h)
      have hlq : (s.2.2.2.take q).length ≤ 1048576 := by have := hs.2.2; simp; omega
      have hrl := repl_len hs (s.2.2.2.take q) [] hids
      simp only [List.length_nil, Nat.zero_add] at hrl
      have hlen : (replC s [] (s.2.2.2.take q)).length ≤ 1099511627776 := by omega
      have d1 : Ev (fun k => spec_l1In k (q : Int) 0 (s.2.2.2.length : Int)) true := by have := l1In_ev (q : Int) 0 (s.2.2.2.length : Int); rwa [decide_eq_true (by omega)] at this
      have d2 : Ev (fun k => impl_in k (q : Int) 0 (s.2.2.2.length : Int)) true := by have := in_ev (q : Int) 0 (s.2.2.2.length : Int); rwa [decide_eq_true (by omega)] at this
      refine ⟨(replC s [] (s.2.2.2.take q), true), ev_congr (fun k => spec_ReplayOrder_eq k s _) (ev_bind b1 (ev_if_neg (by simp) (ev_bind d1 (ev_if_neg (by simp) ?_)))), ev_congr (fun k => impl_ReplayOrder_eq k s _) (ev_bind b2 (ev_if_neg (by simp) (ev_bind d2 (ev_if_neg (by simp) (ev_if_pos (by omega) (ev_if_pos (by omega) ?_)))))), hlen⟩
      · refine ev_bind (a := replC s [] (s.2.2.2.take q)) (ev_congr (fun k => spec_l5Replay_eq k s _) (ev_if_pos (by omega) (ev_if_pos (by omega) ?_))) (ev_some _)
        rw [hcut]
        exact specRepl_ev s hs _ hids hlq _ 0 [] rfl (by simp) (by simp only [List.length_nil]; omega)
      · rw [hcut]
        exact implRepl_ev s hs _ hids hlq _ 0 [] rfl (by simp) (cellsOf_ev _ _ (told_repl s _ _ _ toldC.nil) (repl_keys hs _ _ hids (by simp) List.Pairwise.nil) hlen)
    · have d1 : Ev (fun k => spec_l1In k n 0 (s.2.2.2.length : Int)) false := by have := l1In_ev n 0 (s.2.2.2.length : Int); rwa [decide_eq_false hn] at this
      have d2 : Ev (fun k => impl_in k n 0 (s.2.2.2.length : Int)) false := by have := in_ev n 0 (s.2.2.2.length : Int); rwa [decide_eq_false hn] at this
      exact ⟨([], false), ev_congr (fun k => spec_ReplayOrder_eq k s n) (ev_bind b1 (ev_if_neg (by simp) (ev_bind d1 (ev_if_pos (by simp) (ev_some _))))), ev_congr (fun k => impl_ReplayOrder_eq k s n) (ev_bind b2 (ev_if_neg (by simp) (ev_bind d2 (ev_if_pos (by simp) (ev_some _))))), by simp⟩
theorem law (a0 : StoreT) (a1 : Int) (h0 : okT StoreK a0) (h1 : okT (.int .i64) a1) : ∃ k, laws_FnExactReplayOrder k a0 a1 = some true := by
  apply ev_fuel
  refine ev_congr (fun k => laws_FnExactReplayOrder_eq k a0 a1) ?_
  have hok : szokStore a0 := by
    obtain ⟨_, hr, ht, ho⟩ := h0
    exact ⟨⟨hr.1, fun y hy => ⟨(hr.2 y hy).1, (hr.2 y hy).2.1⟩⟩, ⟨ht.1, fun y hy => ⟨⟨(ht.2 y hy).2.2.1.1, fun z hz => ⟨((ht.2 y hy).2.2.1.2 z hz).1, ((ht.2 y hy).2.2.1.2 z hz).2.1⟩⟩, (ht.2 y hy).2.2.2.1.1, fun z hz => ⟨((ht.2 y hy).2.2.2.1.2 z hz).1, ((ht.2 y hy).2.2.2.1.2 z hz).2⟩⟩⟩, ho.1⟩
  obtain ⟨v, hv, _, hB⟩ := szStore_ev a0 hok 1048576 (by omega) (by omega)
  refine ev_bind hv ?_
  by_cases hneg : v < 0
  · exact ev_if_pos hneg (ev_some _)
  refine ev_if_neg hneg ?_
  have hs := hB (by omega)
  have to := toStore_ev a0 hs
  obtain ⟨r, b1, b2, hr⟩ := replay_ev a0 a1 hs
  have eq := eqCellS_ev r.1 (by omega)
  have ms := markStore_ev a0 hs
  have me := markStore_end a0 hs
  have mk := markCellS_ev r.1 1 (by omega) (by omega)
  have hd := heldCellS_ev 1 r.1.length (by omega) (by omega)
  refine ev_bind to (ev_bind b1 (ev_bind to (ev_bind b2 (ev_bind eq (ev_if_neg (by simp) (ev_if_neg (by simp) ?_))))))
  refine ev_bind to (ev_bind (eqStore_ev a0 hs) (ev_if_neg (by simp) ?_))
  refine ev_bind ms (ev_if_neg (by simp only; omega) (ev_bind eq (ev_if_neg (by simp) (ev_if_neg (by simp) ?_))))
  refine ev_bind mk (ev_bind hd (ev_if_neg (by omega) (ev_if_neg (by simp) ?_)))
  refine ev_bind to (ev_bind b2 (ev_bind eq (ev_if_neg (by simp) (ev_if_neg (by simp) ?_))))
  exact ev_bind hd (ev_if_neg (by omega) (ev_if_neg (by simp) (ev_some _)))

end Go.Proofs.YtolcbchdijdolaaGreatDoor.Fms
