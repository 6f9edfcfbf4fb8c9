/- What the law's functions give: the pure part. -/
import Derived.Test.YtmbcblabfgepfaaDoorFmAid
import Derived.Test.YtmbcblabfgepfaaDoorFmOpn
import Derived.Test.YtmbcblabfgepfaaDoorFmXFnExactRunOpsEq
set_option autoImplicit true
set_option maxRecDepth 100000
set_option linter.unusedVariables false
set_option linter.unusedSimpArgs false
set_option linter.unnecessarySimpa false
set_option linter.unusedSectionVars false
open Go Go.Fm Go.RowKit
namespace Go.Proofs.YtmbcblabfgepfaaDoor.Fms
/-! ### base -/
theorem l1In_ev (n lo hi : Int) : Ev (fun k => spec_l1In k n lo hi) (decide (lo ≤ n ∧ n ≤ hi)) := ev_congr (fun k => by rw [spec_l1In_eq]) (by by_cases h : lo ≤ n <;> simp [ev_some_iff, h])

/-! ### inn -/
theorem in_ev (n lo hi : Int) : Ev (fun k => impl_in k n lo hi) (decide (lo ≤ n ∧ n ≤ hi)) := ev_congr (fun k => by rw [impl_in_eq]) (by by_cases h : lo ≤ n <;> simp [ev_some_iff, h])

/-! ### keys -/
def keyByte (b : UInt8) : Bool := (decide (97 ≤ b.toNat) && decide (b.toNat ≤ 122)) || (decide (48 ≤ b.toNat) && decide (b.toNat ≤ 57))
def keyB (s : ByteArray) : Bool := decide (1 ≤ s.size ∧ s.size ≤ 8) && s.data.toList.all keyByte
def keyCut : List UInt8 := [97, 98, 99, 100, 101, 102, 103, 104, 105, 106, 107, 108, 109, 110, 111, 112, 113, 114, 115, 116, 117, 118, 119, 120, 121, 122, 48, 49, 50, 51, 52, 53, 54, 55, 56, 57]
theorem keyCut_has (b : UInt8) : keyCut.contains b = keyByte b := by
  have h : ∀ n : Fin 256, keyCut.contains (UInt8.ofNat n.val) = keyByte (UInt8.ofNat n.val) := by decide +kernel
  have := h ⟨b.toNat, b.toNat_lt⟩
  simpa using this
theorem drop_nil {α : Type} (p : α → Bool) (l : List α) : (l.dropWhile p).isEmpty = l.all p := by
  induction l with
  | nil => rfl
  | cons x l ih => cases h : p x <;> simp [List.dropWhile_cons, h, ih]
theorem all_drop {α : Type} (p : α → Bool) (l : List α) : (l.dropWhile p).all p = l.all p := by
  induction l with
  | nil => rfl
  | cons x l ih => cases h : p x <;> simp [List.dropWhile_cons, h, ih]
theorem trim_nil (l : List UInt8) : (Go.Lib.trimS l keyCut).isEmpty = l.all keyByte := by
  unfold Go.Lib.trimS Go.Lib.trimLeftS Go.Lib.trimRightS
  rw [drop_nil, List.all_reverse, all_drop, List.all_reverse]
  congr 1
  funext b
  exact keyCut_has b
theorem mk_nil (l : List UInt8) : decide ((⟨l.toArray⟩ : ByteArray) = ByteArray.mk (Array.mk [])) = l.isEmpty := by
  cases l with
  | nil => exact decide_eq_true rfl
  | cons x l => exact decide_eq_false (fun h => by have := congrArg (fun b : ByteArray => b.data.size) h; simp at this)
theorem isKey_ev (s : ByteArray) : Ev (fun k => impl_isKey k s) (keyB s) := by
  refine ev_congr (fun k => impl_isKey_eq k s) ?_
  have e : MapW.strings_Trim.f s ⟨#[97, 98, 99, 100, 101, 102, 103, 104, 105, 106, 107, 108, 109, 110, 111, 112, 113, 114, 115, 116, 117, 118, 119, 120, 121, 122, 48, 49, 50, 51, 52, 53, 54, 55, 56, 57]⟩ = if s.size ≤ 9223372036854775807 then some ⟨(Go.Lib.trimS s.data.toList keyCut).toArray⟩ else none := by
    unfold MapW.strings_Trim.f
    by_cases h : s.size ≤ 9223372036854775807
    · rw [if_pos ⟨h, by decide, by decide⟩, if_pos h]; rfl
    · rw [if_neg (fun hh => h hh.1), if_neg h]
  simp only [e]
  unfold keyB
  by_cases h1 : (1 : Int) ≤ (s.size : Int)
  · by_cases h2 : (s.size : Int) ≤ 8
    · have h3 : 1 ≤ s.size ∧ s.size ≤ 8 := by omega
      rw [if_pos h1, if_pos h2, if_pos (by omega)]
      simp only [Option.bind_some, mk_nil, trim_nil, h3, decide_true, and_self, Bool.true_and]
      exact ev_some _
    · have h3 : ¬ (1 ≤ s.size ∧ s.size ≤ 8) := by omega
      rw [if_pos h1, if_neg h2]
      simp only [h3, decide_false, Bool.false_and]
      exact ev_some _
  · have h3 : ¬ (1 ≤ s.size ∧ s.size ≤ 8) := by omega
    rw [if_neg h1]
    simp only [h3, decide_false, Bool.false_and]
    exact ev_some _
theorem l1Key_ev (s : ByteArray) (hs : s.size ≤ 140737488355328) : Ev (fun k => spec_l1Key k s) (keyB s) := by
  have hl := size_len s
  have key := drop_ind0 s.data.toList (fun n rest => Ev (fun k => spec_l1Key_h2 k s (n : Int)) (rest.all keyByte && decide (1 ≤ s.size ∧ s.size ≤ 8))) ?_ ?_
  · refine ev_congr (fun k => spec_l1Key_eq k s) ?_
    unfold keyB
    rw [Bool.and_comm]
    exact key
  · refine ev_shift ?_
    simp only [spec_l1Key_h2_eq, ev_ite_iff, ev_bind_iff (l1In_ev _ _ _), ev_some_iff]
    rw [← hl, if_neg (by omega)]
    simp only [List.all_nil, Bool.true_and]
    congr 1
    exact propext ⟨fun h => by omega, fun h => by omega⟩
  · intro n b rest hn hx hd ih
    refine ev_shift ?_
    simp only [spec_l1Key_h2_eq, bt_nat hx, wrap_nat (show n < 9223372036854775807 by omega), ev_ite_iff, ev_some_iff, ev_none_iff, List.all_cons]
    rw [if_pos (by omega), if_pos (by omega), if_pos (by omega)]
    cases hp : keyByte b with
    | true =>
      simp only [Bool.true_and]
      simp only [keyByte, Bool.or_eq_true, Bool.and_eq_true, decide_eq_true_eq] at hp
      split
      · split
        · exact ih
        · rw [if_pos (by omega), if_neg (by omega)]; exact ih
      · rw [if_pos (by omega), if_neg (by omega)]; exact ih
    | false =>
      simp only [keyByte, Bool.or_eq_false_iff, Bool.and_eq_false_iff, decide_eq_false_iff_not] at hp
      simp only [Bool.false_and]
      split
      · rw [if_neg (by omega)]
        split
        · rw [if_pos (by omega)]; trivial
        · trivial
      · split
        · rw [if_pos (by omega)]; trivial
        · trivial

/-! ### op -/
abbrev OpT := Int × Int × ByteArray
abbrev OpK : Kind := .struct (.pair (.int .i64) (.pair (.int .i64) .str))
def szokOp (x : OpT) : Prop := x.2.2.size ≤ 140737488351232
def szBOp (x : OpT) : Prop := x.2.2.size ≤ 1048576
theorem szOp_ev (x : OpT) (hx : szokOp x) (a : Int) (h0 : 0 ≤ a) (h1 : a ≤ 1048576) : ∃ v, Ev (fun k => laws_szOp k x a) v ∧ v ≤ a ∧ (0 ≤ v → szBOp x) := by
  unfold szokOp at hx
  have w : wrap64 (a - (x.2.2.size : Int)) = a - x.2.2.size := wrap_of (by omega) (by omega)
  by_cases h : a - (x.2.2.size : Int) < 0
  · exact ⟨-1, ev_congr (fun k => by rw [laws_szOp_eq, w, if_pos h]) (ev_some _), by omega, fun h => by omega⟩
  · exact ⟨_, ev_congr (fun k => by rw [laws_szOp_eq, w, if_neg h]) (ev_some _), by omega, fun _ => by unfold szBOp; omega⟩
theorem toOp_ev (x : OpT) : Ev (fun k => laws_toOp k x) x := ev_congr (fun k => laws_toOp_eq k x) (ev_some x)
theorem eqOp_ev (x : OpT) : Ev (fun k => laws_eqOp k x x) true := ev_congr (fun k => laws_eqOp_eq k x x) (by simp [ev_some_iff])
theorem szOpS_ev (l) (hl : l.length ≤ 140737488355328) (hk : ∀ x ∈ l, szokOp x) (a : Int) (h0 : 0 ≤ a) (h1 : a ≤ 1048576) : ∃ v, Ev (fun k => laws_szOpS k l a) v ∧ v ≤ a ∧ (0 ≤ v → l.length ≤ 1048576 ∧ ∀ x ∈ l, szBOp x) :=
  sz_top (fun k l a => laws_szOpS_eq k l a) (sz_row (fun k l a i => laws_szOpS_h5_eq k l a i) (fun x hx a h0 h1 => szOp_ev x (hk x hx) a h0 h1) (by omega)) hl a h0 h1
theorem toOpS_ev (l) (hl : l.length ≤ 1048576) : Ev (fun k => laws_toOpS k l) l := by
  refine ev_congr (fun k => laws_toOpS_eq k l) ?_
  simp only [ev_ite_iff]
  rw [if_pos trivial, if_pos (by omega)]
  simpa using to_row (l := l) (cv := id) (z := _) (fun k l r i => laws_toOpS_h3_eq k l r i) (fun x _ => toOp_ev x) (by omega)
theorem eqOpS_ev (l) (hl : l.length ≤ 140737488355328) : Ev (fun k => laws_eqOpS k l l) true := by
  refine ev_congr (fun k => laws_eqOpS_eq k l l) ?_
  simp only [ev_ite_iff]
  rw [if_neg (by simp)]
  exact eq_row (l := l) (fun k a b i => laws_eqOpS_h4_eq k a b i) (fun x _ => eqOp_ev x) (by omega)

/-! ### ops -/
def opOk (o : OpT) : Bool := decide (1 ≤ o.1 ∧ o.1 ≤ 3) && (decide (1 ≤ o.2.1 ∧ o.2.1 ≤ 8) && (if o.1 = 3 then decide (o.2.2 = ByteArray.mk (Array.mk [])) else keyB o.2.2))
def sameT (o x : OpT) : Bool := decide (x.2.1 = o.2.1)
def doneT (o x : OpT) : Bool := decide (x.2.1 = o.2.1) && decide (x.1 = 3)
def condT (o : OpT) (later done : Bool) : Bool := if o.1 = 3 then !later else done
def opsFrom : List OpT → Bool
  | [] => true
  | o :: r => opOk o && (condT o (r.any (sameT o)) (r.any (doneT o)) && opsFrom r)
def opsB (l : List OpT) : Bool := decide (l.length ≤ 60) && opsFrom l
theorem keyB_empty {s : ByteArray} (h : s = ByteArray.mk (Array.mk [])) : keyB s = false := by
  subst h
  rfl
def runI (ov se : List Bool) : List OpT → Bool
  | [] => se == ov
  | o :: r => opOk o && (!(ov.getD o.2.1.toNat false) && runI (ov.set o.2.1.toNat (o.1 == 3)) (se.set o.2.1.toNat true) r)
theorem opOk_txn {o : OpT} (h : opOk o = true) : 1 ≤ o.2.1 ∧ o.2.1 ≤ 8 := by
  simp only [opOk, Bool.and_eq_true, decide_eq_true_eq] at h
  exact h.2.1
theorem getD_set (l : List Bool) (n m : Nat) (b : Bool) (hn : n < l.length) : (l.set n b).getD m false = if m = n then b else l.getD m false := by
  by_cases h : m = n
  · subst h; simp [hn]
  · rw [if_neg h]
    simp only [List.getD_eq_getElem?_getD]
    rw [List.getElem?_set_ne (by omega)]
theorem runI_iff : ∀ (r : List OpT) (ov se : List Bool), ov.length = 9 → se.length = 9 → (∀ n, ov.getD n false = true → se.getD n false = true) →
    (runI ov se r = true ↔ opsFrom r = true ∧ ∀ n, n < 9 → ((ov.getD n false = true → ∀ o ∈ r, o.2.1.toNat ≠ n) ∧ (se.getD n false = true → ov.getD n false = false → ∃ o ∈ r, o.2.1.toNat = n ∧ o.1 = 3)))
  | [], ov, se, ho, hs, hle => by
    simp only [runI, opsFrom, beq_iff_eq, true_and]
    constructor
    · rintro rfl n _
      exact ⟨fun _ o h => (by cases h), fun h1 h2 => (by rw [h1] at h2; cases h2)⟩
    · intro h
      apply List.ext_getElem?
      intro n
      by_cases hn : n < 9
      · obtain ⟨_, h2⟩ := h n hn
        have hl := hle n
        simp only [List.getD_eq_getElem?_getD] at h2 hl
        rw [List.getElem?_eq_getElem (by omega), List.getElem?_eq_getElem (by omega)] at *
        simp only [Option.getD_some] at h2 hl
        congr 1
        cases e1 : ov[n] with
        | true => exact hl e1
        | false =>
          cases e2 : se[n] with
          | false => rfl
          | true => obtain ⟨o, h, _⟩ := h2 e2 e1; cases h
      · rw [List.getElem?_eq_none (by omega), List.getElem?_eq_none (by omega)]
  | o :: r, ov, se, ho, hs, hle => by
    simp only [runI, opsFrom, Bool.and_eq_true, Bool.not_eq_true']
    by_cases hok : opOk o = true
    · have ht := opOk_txn hok
      have hT : o.2.1.toNat < 9 := by omega
      have ih := runI_iff r (ov.set o.2.1.toNat (o.1 == 3)) (se.set o.2.1.toNat true) (by simpa using ho) (by simpa using hs) (fun n => by
        rw [getD_set ov _ _ _ (by omega), getD_set se _ _ _ (by omega)]
        split
        · intro _; rfl
        · exact hle n)
      rw [ih]
      have eqv : ∀ x : OpT, x.2.1 = o.2.1 ↔ x.2.1.toNat = o.2.1.toNat := fun x => ⟨fun e => by rw [e], fun e => by omega⟩
      have hcond : condT o (r.any (sameT o)) (r.any (doneT o)) = true ↔ ((o.1 = 3 → ∀ x ∈ r, x.2.1.toNat ≠ o.2.1.toNat) ∧ (¬ o.1 = 3 → ∃ x ∈ r, x.2.1.toNat = o.2.1.toNat ∧ x.1 = 3)) := by
        unfold condT
        by_cases h3 : o.1 = 3
        · simp only [if_pos h3, Bool.not_eq_true', List.any_eq_false, sameT, decide_eq_true_eq, eqv]
          constructor
          · intro h; exact ⟨fun _ => h, fun n => absurd h3 n⟩
          · intro h; exact h.1 h3
        · simp only [if_neg h3, List.any_eq_true, doneT, Bool.and_eq_true, decide_eq_true_eq, eqv]
          constructor
          · intro h; exact ⟨fun n => absurd n h3, fun _ => h⟩
          · intro h; exact h.2 h3
      rw [hcond]
      constructor
      · rintro ⟨_, hov, hf, hall⟩
        obtain ⟨t1, t2⟩ := hall o.2.1.toNat hT
        rw [getD_set ov _ _ _ (by omega), getD_set se _ _ _ (by omega), if_pos rfl, if_pos rfl] at t2
        rw [getD_set ov _ _ _ (by omega), if_pos rfl] at t1
        refine ⟨⟨hok, ⟨fun h3 => t1 (by simp [h3]), fun h3 => t2 rfl (by simp [h3])⟩, hf⟩, fun n hn => ?_⟩
        by_cases hne : n = o.2.1.toNat
        · subst hne
          refine ⟨fun h => (by rw [hov] at h; cases h), fun _ _ => ?_⟩
          by_cases h3 : o.1 = 3
          · exact ⟨o, List.mem_cons_self, rfl, h3⟩
          · obtain ⟨x, hx, hx2⟩ := t2 rfl (by simp [h3])
            exact ⟨x, List.mem_cons_of_mem _ hx, hx2⟩
        · obtain ⟨s1, s2⟩ := hall n hn
          rw [getD_set ov _ _ _ (by omega), if_neg hne] at s1 s2
          rw [getD_set se _ _ _ (by omega), if_neg hne] at s2
          refine ⟨fun h x hx => ?_, fun h1 h2 => ?_⟩
          · rcases List.mem_cons.1 hx with rfl | hx
            · exact fun e => hne e.symm
            · exact s1 h x hx
          · obtain ⟨x, hx, hx2⟩ := s2 h1 h2
            exact ⟨x, List.mem_cons_of_mem _ hx, hx2⟩
      · rintro ⟨⟨_, ⟨c1, c2⟩, hf⟩, hall⟩
        obtain ⟨t1, t2⟩ := hall o.2.1.toNat hT
        have hov : ov.getD o.2.1.toNat false = false := by
          cases h : ov.getD o.2.1.toNat false with
          | false => rfl
          | true => exact absurd rfl (t1 h o List.mem_cons_self)
        refine ⟨hok, hov, hf, fun n hn => ?_⟩
        rw [getD_set ov _ _ _ (by omega), getD_set se _ _ _ (by omega)]
        by_cases hne : n = o.2.1.toNat
        · subst hne
          simp only [if_true]
          refine ⟨fun h => c1 (by simpa using h), fun _ h => c2 (by simpa using h)⟩
        · simp only [if_neg hne]
          obtain ⟨s1, s2⟩ := hall n hn
          refine ⟨fun h x hx => s1 h x (List.mem_cons_of_mem _ hx), fun h1 h2 => ?_⟩
          obtain ⟨x, hx, hx2⟩ := s2 h1 h2
          rcases List.mem_cons.1 hx with rfl | hx
          · exact absurd hx2.1.symm hne
          · exact ⟨x, hx, hx2⟩
    · simp [hok]
theorem runI_start (l : List OpT) : runI (List.replicate 9 false) (List.replicate 9 false) l = opsFrom l := by
  have z : ∀ n, (List.replicate 9 false).getD n false = false := by
    intro n
    simp only [List.getD_eq_getElem?_getD, List.getElem?_replicate]
    split <;> rfl
  rw [Bool.eq_iff_iff, runI_iff l _ _ (by simp) (by simp) (fun n h => h)]
  simp only [z]
  simp

def sizesO (l : List OpT) : Prop := ∀ y ∈ l, y.2.2.size ≤ 140737488351232
theorem specOps_ev (l : List OpT) (hl : l.length ≤ 1048576) (hk : sizesO l) : Ev (fun k => spec_GoodOps k l) (opsB l) := by
  have key := drop_ind0 l (fun n rest => Ev (fun k => spec_GoodOps_h4 k l l (l.length : Int) (n : Int)) (opsFrom rest)) ?_ ?_
  · refine ev_congr (fun k => spec_GoodOps_eq k l) ?_
    unfold opsB
    simp only [ev_ite_iff, ev_some_iff]
    by_cases h60 : l.length ≤ 60
    · rw [if_neg (by omega)]
      simpa [h60] using key
    · rw [if_pos (by omega)]
      simp [h60]
  · exact ev_last (fun k => by rw [spec_GoodOps_h4_eq, if_neg (by omega)]; rfl)
  · intro n o rest hn ho hd ih
    have s1 := hk o (List.mem_of_getElem? ho)
    have hrest := drop_next hd
    have hno : opsFrom (o :: rest) = (opOk o && (condT o (rest.any (sameT o)) (rest.any (doneT o)) && opsFrom rest)) := rfl
    have hlr : rest.length ≤ l.length := by rw [← hrest]; simp
    have inner : Ev (fun k => spec_GoodOps_h11 k l o false false l (l.length : Int) (n : Int) rest (rest.length : Int) 0) (condT o (rest.any (sameT o)) (rest.any (doneT o)) && opsFrom rest) := by
      have key2 := drop_ind0 rest (fun j rs => ∀ a b : Bool, Ev (fun k => spec_GoodOps_h11 k l o a b l (l.length : Int) (n : Int) rest (rest.length : Int) (j : Int)) (condT o (a || rs.any (sameT o)) (b || rs.any (doneT o)) && opsFrom rest)) ?_ ?_
      · simpa using key2 false false
      · intro a b
        refine ev_shift ?_
        simp only [spec_GoodOps_h11_eq, wrap_nat (show n < 9223372036854775807 by omega), ev_ite_iff, ev_some_iff]
        rw [if_neg (by omega)]
        simp only [List.any_nil, Bool.or_false, condT]
        by_cases h3 : o.1 = 3
        · cases a <;> simpa [h3] using ih
        · cases b <;> simpa [h3] using ih
      · intro j x rs hj hx _ ih2 a b
        have H := ih2 (a || decide (x.2.1 = o.2.1)) (b || (decide (x.2.1 = o.2.1) && decide (x.1 = 3)))
        have e1 : (a || decide (x.2.1 = o.2.1) || rs.any (sameT o)) = (a || (x :: rs).any (sameT o)) := by simp [sameT, Bool.or_assoc]
        have e2 : (b || (decide (x.2.1 = o.2.1) && decide (x.1 = 3)) || rs.any (doneT o)) = (b || (x :: rs).any (doneT o)) := by simp [doneT, Bool.or_assoc]
        rw [e1, e2] at H
        refine ev_shift ?_
        simp only [spec_GoodOps_h11_eq, rdT_get (e := OpK) hx, wrap_nat (show j < 9223372036854775807 by omega), ev_ite_iff, ev_none_iff]
        rw [if_pos (by omega), if_pos (by omega), if_pos (by omega)]
        by_cases h1 : x.2.1 = o.2.1 <;> cases a <;> cases b <;> simpa [h1] using H
    refine ev_shift ?_
    simp only [spec_GoodOps_h4_eq, rdT_get (e := OpK) ho, wrap_nat (show n < 9223372036854775807 by omega), Int.toNat_natCast, List.take_length, hrest, ev_ite_iff, ev_bind_iff (l1In_ev _ _ _), ev_bind_iff (l1Key_ev o.2.2 (by omega)), ev_some_iff, ev_none_iff]
    rw [if_pos (by omega), if_pos (by omega), if_pos (by omega), hno, if_pos (show (0 : Int) ≤ ((n + 1 : Nat) : Int) by omega), if_pos (show ((n + 1 : Nat) : Int) ≤ (l.length : Int) by omega)]
    unfold opOk
    by_cases b0 : 1 ≤ o.1 ∧ o.1 ≤ 3
    · by_cases b1 : 1 ≤ o.2.1 ∧ o.2.1 ≤ 8
      · by_cases b2 : o.2.2 = ByteArray.mk (Array.mk [])
        · by_cases b3 : o.1 = 3
          · simpa [b0, b1, b2, b3] using inner
          · simp [b0, b1, b3, b2, show keyB (ByteArray.mk (Array.mk [])) = false from rfl]
        · by_cases b3 : o.1 = 3
          · simp [b0, b1, b2, b3]
          · cases b4 : keyB o.2.2 with
            | true => simpa [b0, b1, b2, b3, b4] using inner
            | false => simp [b0, b1, b2, b3, b4]
      · simp [b0, b1]
    · simp [b0]
theorem eqL_bool : ∀ {a b : List Bool}, eqL (fun x y => decide (x = y)) a b = (a == b)
  | [], [] => rfl
  | [], _ :: _ => rfl
  | _ :: _, [] => rfl
  | x :: a, y :: b => by simp only [eqL, eqL_bool (a := a) (b := b)]; cases x <;> cases y <;> simp
theorem implOps_ev (l : List OpT) (hl : l.length ≤ 1048576) (hk : sizesO l) : Ev (fun k => impl_areOps k l) (opsB l) := by
  have key := drop_ind0 l (fun n rest => ∀ ov se : List Bool, ov.length = 9 → se.length = 9 → Ev (fun k => impl_areOps_h4 k l ov se l (l.length : Int) (n : Int)) (decide (l.length ≤ 60) && runI ov se rest)) ?_ ?_
  · refine ev_congr (fun k => impl_areOps_eq k l) ?_
    have := key (List.replicate 9 false) (List.replicate 9 false) (by simp) (by simp)
    rw [runI_start] at this
    exact this
  · intro ov se ho hs
    refine ev_shift ?_
    simp only [impl_areOps_h4_eq, ev_ite_iff, ev_some_iff]
    rw [if_neg (by omega), eqL_bool]
    by_cases h60 : l.length ≤ 60
    · rw [if_pos (by omega)]; simp [h60, runI]
    · rw [if_neg (by omega)]; simp [h60]
  · intro n o rest hn ho _ ih ov se hov hse
    have s1 := hk o (List.mem_of_getElem? ho)
    have hno : runI ov se (o :: rest) = (opOk o && (!(ov.getD o.2.1.toNat false) && runI (ov.set o.2.1.toNat (o.1 == 3)) (se.set o.2.1.toNat true) rest)) := rfl
    have H := ih (ov.set o.2.1.toNat (o.1 == 3)) (se.set o.2.1.toNat true) (by simpa using hov) (by simpa using hse)
    have e3 : decide (o.1 = 3) = (o.1 == 3) := by by_cases h : o.1 = 3 <;> simp [h]
    refine ev_shift ?_
    simp only [impl_areOps_h4_eq, rdT_get (e := OpK) ho, wrap_nat (show n < 9223372036854775807 by omega), ev_ite_iff, ev_bind_iff (in_ev _ _ _), ev_bind_iff (isKey_ev _), ev_some_iff, ev_none_iff, e3]
    obtain ⟨q, hq⟩ : ∃ q, ov.getD o.2.1.toNat false = q := ⟨_, rfl⟩
    rw [if_pos (by omega), if_pos (by omega), if_pos (by omega), hno, hq]
    unfold opOk
    by_cases b0 : 1 ≤ o.1 ∧ o.1 ≤ 3
    · by_cases b1 : 1 ≤ o.2.1 ∧ o.2.1 ≤ 8
      · have c1 : (0 : Int) ≤ o.2.1 := by omega
        have c2 : o.2.1 < 9 := by omega
        have e4 : rdT .bool ov o.2.1 = q := hq
        by_cases b3 : o.1 = 3
        · by_cases b2 : o.2.2 = ByteArray.mk (Array.mk [])
          · cases q <;> simp [b0, b1, b3, b2, c1, c2, e4] at H ⊢ <;> exact H
          · cases q <;> simp [b0, b1, b3, b2, c1, c2, e4]
        · cases b4 : keyB o.2.2 <;> cases q <;> simp [b0, b1, b3, b4, c1, c2, e4] at H ⊢ <;> exact H
      · simp [b0, b1]
    · simp [b0]

/-! ### cellty -/
abbrev CellT := ByteArray × ByteArray
abbrev CellK : Kind := .struct (.pair .str .str)

/-! ### bsearch -/
/-! texts in their order -/
theorem bl_irrefl : ∀ x : List UInt8, Op.bytesLess x x = false
  | [] => rfl
  | a :: x => by simp [Op.bytesLess, bl_irrefl x]
theorem bl_trans : ∀ {x y z : List UInt8}, Op.bytesLess x y = true → Op.bytesLess y z = true → Op.bytesLess x z = true
  | x, y, [], _, h => by cases y <;> simp [Op.bytesLess] at h
  | x, [], c :: z, h, _ => by cases x <;> simp [Op.bytesLess] at h
  | [], b :: y, c :: z, _, _ => rfl
  | a :: x, b :: y, c :: z, h1, h2 => by
    simp only [Op.bytesLess, Bool.or_eq_true, Bool.and_eq_true, decide_eq_true_eq, beq_iff_eq] at h1 h2 ⊢
    rcases h1 with h1 | ⟨rfl, h1⟩
    · rcases h2 with h2 | ⟨rfl, h2⟩
      · exact .inl (UInt8.lt_trans h1 h2)
      · exact .inl h1
    · rcases h2 with h2 | ⟨rfl, h2⟩
      · exact .inl h2
      · exact .inr ⟨rfl, bl_trans h1 h2⟩
theorem cmp_facts : ∀ (x y : List UInt8), (Go.Lib.compareBytes x y < 0 ↔ Op.bytesLess x y = true) ∧ (Go.Lib.compareBytes x y = 0 ↔ x = y)
  | [], [] => by simp [Go.Lib.compareBytes, Op.bytesLess]
  | [], _ :: _ => by simp [Go.Lib.compareBytes, Op.bytesLess]
  | _ :: _, [] => by simp [Go.Lib.compareBytes, Op.bytesLess]
  | a :: x, b :: y => by
    obtain ⟨h1, h2⟩ := cmp_facts x y
    simp only [Go.Lib.compareBytes, Op.bytesLess]
    by_cases hab : a < b
    · have hne : a ≠ b := fun e => by subst e; exact absurd hab (UInt8.lt_irrefl _)
      simp [hab, hne]
    · by_cases hba : b < a
      · have hne : a ≠ b := fun e => by subst e; exact absurd hba (UInt8.lt_irrefl _)
        simp [hab, hba, hne]
      · have he : a = b := UInt8.le_antisymm (UInt8.not_lt.1 hba) (UInt8.not_lt.1 hab)
        subst he
        simp only [hab, if_false, h1, h2, decide_false, Bool.false_or, beq_self_eq_true, Bool.true_and, List.cons.injEq, true_and, and_self]
theorem cmp_neg (a b : ByteArray) : gvCompare a b < 0 ↔ lessS a b = true := by
  unfold gvCompare lessS
  rw [ByteArray.toList_eq, ByteArray.toList_eq]
  exact (cmp_facts _ _).1
theorem cmp_zero (a b : ByteArray) : gvCompare a b = 0 ↔ a = b := by
  unfold gvCompare
  rw [(cmp_facts _ _).2]
  exact ⟨fun h => Go.WideShapes.bytes_inj h, fun h => by rw [h]⟩
theorem lessS_trans {a b c : ByteArray} (h : lessS a b = true) (h' : lessS b c = true) : lessS a c = true := bl_trans h h'
theorem lessS_irrefl (a : ByteArray) : lessS a a = false := bl_irrefl _
/-! search -/
theorem mid_eq {a b : Nat} (h : a ≤ b) (hb : b ≤ 140737488355328) : (Go.IntKind.wrap Go.IntKind.i64 (Int.fdiv (Go.IntKind.wrap Go.IntKind.u64 (wrap64 ((a : Int) + (b : Int)))) (Int.instNatPow.1 2 (Min.min (Int.toNat 1) 64)))) = (((a + b) / 2 : Nat) : Int) := by
  have w1 : wrap64 ((a : Int) + (b : Int)) = ((a + b : Nat) : Int) := by rw [wrap_of (by omega) (by omega)]; omega
  have w2 : (Int.instNatPow.1 2 (Min.min (Int.toNat 1) 64) : Int) = 2 := by decide
  rw [w1, w2, wraps_u64 _ (by omega) (by omega)]
  have w3 : Int.fdiv ((a + b : Nat) : Int) 2 = (((a + b) / 2 : Nat) : Int) := by
    rw [Int.fdiv_eq_ediv_of_nonneg _ (by omega)]; omega
  rw [w3]
  have : ∀ n : Nat, n < 9223372036854775807 → Go.IntKind.wrap Go.IntKind.i64 (n : Int) = (n : Int) := fun n hn => by
    simp only [IntKind.wrap, IntKind.signed, IntKind.bits]
    simp
    omega
  exact this _ (by omega)
section
variable {e : Kind} {H : Nat → Int → Int → Option (Int × Bool)} {F : Nat → e.T → Option Int} {cv : e.T → Int} {l : List e.T}
theorem bs_ev (hl : l.length ≤ 140737488355328) (hF : ∀ x, Ev (fun k => F k x) (cv x))
    (hs : ∀ k lo hi, H (k + 1) lo hi = (if lo < hi then (if 0 ≤ (Go.IntKind.wrap Go.IntKind.i64 (Int.fdiv (Go.IntKind.wrap Go.IntKind.u64 (wrap64 (lo + hi))) (Int.instNatPow.1 2 (Min.min (Int.toNat 1) 64)))) then (if (Go.IntKind.wrap Go.IntKind.i64 (Int.fdiv (Go.IntKind.wrap Go.IntKind.u64 (wrap64 (lo + hi))) (Int.instNatPow.1 2 (Min.min (Int.toNat 1) 64)))) < (l.length : Int) then
      ((F k (rdT e l (Go.IntKind.wrap Go.IntKind.i64 (Int.fdiv (Go.IntKind.wrap Go.IntKind.u64 (wrap64 (lo + hi))) (Int.instNatPow.1 2 (Min.min (Int.toNat 1) 64)))))).bind fun t => if t < 0 then H k (wrap64 ((Go.IntKind.wrap Go.IntKind.i64 (Int.fdiv (Go.IntKind.wrap Go.IntKind.u64 (wrap64 (lo + hi))) (Int.instNatPow.1 2 (Min.min (Int.toNat 1) 64)))) + 1)) hi else H k lo (Go.IntKind.wrap Go.IntKind.i64 (Int.fdiv (Go.IntKind.wrap Go.IntKind.u64 (wrap64 (lo + hi))) (Int.instNatPow.1 2 (Min.min (Int.toNat 1) 64))))) else none) else none)
      else (if lo < (l.length : Int) then (if 0 ≤ lo then (if lo < (l.length : Int) then ((F k (rdT e l lo)).bind fun t => some (lo, decide (t = 0))) else none) else none) else some (lo, false)))) :
    ∃ (i : Nat) (f : Bool), Ev (fun k => H k 0 (l.length : Int)) ((i : Int), f) ∧ i ≤ l.length ∧ (∀ x, 0 < i → l[i - 1]? = some x → cv x < 0) ∧ (∀ x, l[i]? = some x → ¬ cv x < 0) ∧ (f = true ↔ ∃ x, l[i]? = some x ∧ cv x = 0) := by
  have key : ∀ d lo hi : Nat, hi - lo = d → lo ≤ hi → hi ≤ l.length → (∀ x, 0 < lo → l[lo - 1]? = some x → cv x < 0) → (∀ x, l[hi]? = some x → ¬ cv x < 0) →
      ∃ (i : Nat) (f : Bool), Ev (fun k => H k (lo : Int) (hi : Int)) ((i : Int), f) ∧ i ≤ l.length ∧ (∀ x, 0 < i → l[i - 1]? = some x → cv x < 0) ∧ (∀ x, l[i]? = some x → ¬ cv x < 0) ∧ (f = true ↔ ∃ x, l[i]? = some x ∧ cv x = 0) := by
    intro d
    induction d using Nat.strongRecOn with
    | ind d ih =>
      intro lo hi hd hle hhi h1 h2
      by_cases hlt : lo < hi
      · have hm : (lo + hi) / 2 < l.length := by omega
        have hx : l[(lo + hi) / 2]? = some l[(lo + hi) / 2] := List.getElem?_eq_getElem hm
        generalize l[(lo + hi) / 2] = x at hx
        have hmid := mid_eq hle (by omega)
        by_cases hc : cv x < 0
        · obtain ⟨i, f, r1, r2⟩ := ih (hi - ((lo + hi) / 2 + 1)) (by omega) ((lo + hi) / 2 + 1) hi rfl (by omega) hhi (fun y _ hy => by
            rw [show (lo + hi) / 2 + 1 - 1 = (lo + hi) / 2 from rfl, hx] at hy; cases hy; exact hc) h2
          refine ⟨i, f, ev_shift ?_, r2⟩
          simp only [hs, hmid, rdT_get hx, ev_bind_iff (hF x), ev_ite_iff, ev_none_iff, wrap_nat (show (lo + hi) / 2 < 9223372036854775807 by omega)]
          rw [if_pos (by omega), if_pos (by omega), if_pos (by omega), if_pos hc]
          exact r1
        · obtain ⟨i, f, r1, r2⟩ := ih ((lo + hi) / 2 - lo) (by omega) lo ((lo + hi) / 2) rfl (by omega) (by omega) h1 (fun y hy => by rw [hx] at hy; cases hy; exact hc)
          refine ⟨i, f, ev_shift ?_, r2⟩
          simp only [hs, hmid, rdT_get hx, ev_bind_iff (hF x), ev_ite_iff, ev_none_iff]
          rw [if_pos (by omega), if_pos (by omega), if_pos (by omega), if_neg hc]
          exact r1
      · have he : lo = hi := by omega
        subst he
        by_cases hlo : lo < l.length
        · have hx : l[lo]? = some l[lo] := List.getElem?_eq_getElem hlo
          generalize l[lo] = x at hx
          refine ⟨lo, decide (cv x = 0), ev_shift ?_, by omega, h1, h2, ?_⟩
          · simp only [hs, rdT_get hx, ev_bind_iff (hF x), ev_ite_iff, ev_none_iff, ev_some_iff]
            rw [if_neg (by omega), if_pos (by omega), if_pos (by omega), if_pos (by omega)]
            trivial
          · simp [hx]
        · refine ⟨lo, false, ev_shift ?_, by omega, h1, h2, ?_⟩
          · simp only [hs, ev_ite_iff, ev_none_iff, ev_some_iff]
            rw [if_neg (by omega), if_neg (by omega)]
            trivial
          · have : l[lo]? = none := List.getElem?_eq_none (by omega)
            simp [this]
  have := key l.length 0 l.length (by omega) (by omega) (by omega) (fun x h => absurd h (by omega)) (fun x h => by rw [List.getElem?_eq_none (by omega)] at h; cases h)
  simpa using this
/-- in a row in strict order, what is searched is where it is -/
def sortedBy (key : e.T → ByteArray) (l : List e.T) : Prop := ∀ i x y, l[i]? = some x → l[i + 1]? = some y → lessS (key x) (key y) = true
theorem sorted_lt {key : e.T → ByteArray} (h : sortedBy key l) : ∀ d i x y, l[i]? = some x → l[i + d + 1]? = some y → lessS (key x) (key y) = true := by
  intro d
  induction d with
  | zero => intro i x y hx hy; exact h i x y hx hy
  | succ d ih =>
    intro i x y hx hy
    have hlt : i + (d + 1) + 1 < l.length := by
      rcases Nat.lt_or_ge (i + (d + 1) + 1) l.length with h | h
      · exact h
      · rw [List.getElem?_eq_none h] at hy; cases hy
    have hz : l[i + d + 1]? = some l[i + d + 1] := List.getElem?_eq_getElem (by omega)
    exact lessS_trans (ih i x _ hx hz) (h (i + d + 1) _ y hz hy)
theorem bs_sorted {key : e.T → ByteArray} {s : ByteArray} (hsrt : sortedBy key l) {i : Nat} (h1 : ∀ x, 0 < i → l[i - 1]? = some x → gvCompare (key x) s < 0) (h2 : ∀ x, l[i]? = some x → ¬ gvCompare (key x) s < 0) (hi : i ≤ l.length)
    {j : Nat} {y : e.T} (hy : l[j]? = some y) (hk : key y = s) : j = i := by
  have hj : j < l.length := by
    rcases Nat.lt_or_ge j l.length with h | h
    · exact h
    · rw [List.getElem?_eq_none h] at hy; cases hy
  rcases Nat.lt_trichotomy j i with h | h | h
  · exfalso
    have hp : l[i - 1]? = some l[i - 1] := List.getElem?_eq_getElem (by omega)
    have hneg := h1 _ (by omega) hp
    rw [cmp_neg] at hneg
    by_cases he : j = i - 1
    · subst he
      rw [hp] at hy; cases hy
      rw [hk, lessS_irrefl] at hneg; cases hneg
    · have := sorted_lt hsrt (i - 1 - j - 1) j y _ hy (by rw [show j + (i - 1 - j - 1) + 1 = i - 1 by omega]; exact hp)
      rw [hk] at this
      have := lessS_trans this hneg
      rw [lessS_irrefl] at this; cases this
  · exact h
  · exfalso
    have hp : l[i]? = some l[i] := List.getElem?_eq_getElem (by omega)
    have hnn := h2 _ hp
    rw [cmp_neg] at hnn
    have := sorted_lt hsrt (j - i - 1) i _ y hp (by rw [show i + (j - i - 1) + 1 = j by omega]; exact hy)
    rw [hk] at this
    exact hnn this
end

/-! ### cells -/
/-! cells that are put in their places, looked up -/
def putC : List CellT → CellT → List CellT
  | [], x => [x]
  | y :: l, x => if lessS y.1 x.1 = true then y :: putC l x else if y.1 = x.1 then x :: l else x :: y :: l
def valC : List CellT → ByteArray → ByteArray
  | [], _ => ⟨#[]⟩
  | y :: l, key => if y.1 = key then y.2 else valC l key
theorem putC_len : ∀ (l : List CellT) (x : CellT), (putC l x).length ≤ l.length + 1
  | [], x => by simp [putC]
  | y :: l, x => by
    have := putC_len l x
    simp only [putC]
    split
    · simp only [List.length_cons]; omega
    · split <;> simp
theorem valC_put (key : ByteArray) : ∀ (l : List CellT) (x : CellT), valC (putC l x) key = if x.1 = key then x.2 else valC l key
  | [], x => by simp [putC, valC]
  | y :: l, x => by
    have ih := valC_put key l x
    simp only [putC]
    by_cases h : lessS y.1 x.1 = true
    · rw [if_pos h]
      simp only [valC, ih]
      by_cases h1 : y.1 = key
      · have : x.1 ≠ key := fun e => by rw [h1, e, lessS_irrefl] at h; cases h
        rw [if_pos h1, if_neg this, if_pos h1]
      · rw [if_neg h1, if_neg h1]
    · rw [if_neg h]
      by_cases h2 : y.1 = x.1
      · rw [if_pos h2]
        simp only [valC]
        by_cases h3 : x.1 = key
        · rw [if_pos h3, if_pos h3]
        · rw [if_neg h3, if_neg h3, if_neg (by rw [h2]; exact h3)]
      · rw [if_neg h2]
        simp only [valC]
theorem l3Cells_ev (l : List CellT) (x : CellT) (hl : l.length ≤ 1099511627776) : Ev (fun k => spec_l3Cells k l x) (putC l x) := by
  have h9 : ∀ (n : Nat) (acc : List CellT), n ≤ l.length → acc.length ≤ l.length + 1 → Ev (fun k => spec_l3Cells_h9 k l (n : Int) acc) (acc ++ l.drop n) := by
    intro n acc hn ha
    refine ev_shift ?_
    have hs : List.drop (Int.toNat (n : Int)) (List.take (Int.toNat ((l.length : Nat) : Int)) l) = l.drop n := by simp
    simp only [spec_l3Cells_h9_eq, ev_ite_iff, ev_some_iff, ev_none_iff, hs]
    rw [if_pos (by omega), if_pos (by omega), if_pos (by rw [List.length_drop]; omega)]
    trivial
  have key := drop_ind l (fun n rest => Ev (fun k => spec_l3Cells_h2 k l x (n : Int)) (l.take n ++ putC rest x)) ?_ ?_
  · refine ev_congr (fun k => spec_l3Cells_eq k l x) ?_
    have := key 0 (Nat.zero_le _)
    simpa using this
  · refine ev_shift ?_
    have hs : List.drop (Int.toNat 0) (List.take (Int.toNat ((l.length : Nat) : Int)) l) = l := by simp
    have := h9 l.length (([] ++ l) ++ List.cons x []) (Nat.le_refl _) (by simp)
    simp only [spec_l3Cells_h2_eq, ev_ite_iff, ev_none_iff, hs]
    rw [if_neg (by omega), if_pos (by omega), if_pos (by omega), if_pos (by omega), if_pos (by simp; omega), if_neg (by omega)]
    simpa [putC] using this
  · intro n y rest hn hy hd ih
    have q0 : (0 : Int) ≤ (n : Int) := by omega
    have q1 : (n : Int) < (l.length : Int) := by omega
    have hs : List.drop (Int.toNat 0) (List.take (Int.toNat (n : Int)) l) = l.take n := by simp
    have hlt : (l.take n).length = n := by simp; omega
    refine ev_shift ?_
    simp only [spec_l3Cells_h2_eq, rdT_get (e := CellK) hy, wrap_nat (show n < 9223372036854775807 by omega), ev_ite_iff, ev_none_iff, hs]
    rw [if_pos q1, if_pos q0, if_pos q1]
    simp only [putC]
    by_cases h : lessS y.1 x.1 = true
    · rw [if_pos h, if_pos h]
      rw [take_snoc hy] at ih
      simpa using ih
    · rw [if_neg h, if_neg h, if_pos q0, if_pos (by omega), if_pos (by rw [hlt]; omega), if_pos (by simp; omega), if_pos q1, if_pos q0, if_pos q1]
      by_cases h2 : y.1 = x.1
      · rw [if_pos h2, if_pos h2]
        have := h9 (n + 1) (([] ++ l.take n) ++ List.cons x []) hn (by simp; omega)
        rw [drop_next hd] at this
        simpa using this
      · rw [if_neg h2, if_neg h2]
        have := h9 n (([] ++ l.take n) ++ List.cons x []) (by omega) (by simp; omega)
        rw [hd] at this
        simpa using this
theorem mgetSS_put : ∀ (m : List (ByteArray × ByteArray)) (n v x : ByteArray), mgetT .str .str (mputT .str .str m n v) x = if n = x then v else mgetT .str .str m x
  | [], n, v, x => by
    by_cases h : n = x
    · subst h; simp [mgetT, mputT, mfind, eqT, zeroT]
    · simp [mgetT, mputT, mfind, eqT, h, zeroT, Ne.symm h]
  | p :: m, n, v, x => by
    have ih := mgetSS_put m n v x
    simp only [mgetT, mputT, mfind, eqT] at ih ⊢
    by_cases h1 : n = p.1 <;> by_cases h2 : x = p.1 <;> by_cases h3 : n = x <;> simp_all [mfind, eqT]

/-! ### cellsmap -/
/-! cells by a map's keys -/
theorem bl_lt : ∀ (x y : List UInt8), Op.bytesLess x y = decide (x < y)
  | [], [] => by simp [Op.bytesLess]
  | _ :: _, [] => by simp [Op.bytesLess]
  | [], _ :: _ => by simp [Op.bytesLess]
  | a :: x, b :: y => by
    rw [Op.bytesLess, bl_lt x y]
    simp only [List.cons_lt_cons_iff]
    by_cases h1 : a < b <;> by_cases h2 : a = b <;> by_cases h3 : x < y <;> simp [h1, h2, h3]
theorem lessS_lt (a b : ByteArray) : lessS a b = true ↔ a.data.toList < b.data.toList := by
  unfold lessS
  rw [ByteArray.toList_eq, ByteArray.toList_eq, bl_lt, decide_eq_true_eq]
theorem skeys_some (m : List CellT) (hnd : (m.map Prod.fst).Nodup) (hsz : ∀ x ∈ m.map Prod.fst, x.size ≤ maxLen) (hl : m.length ≤ 8796093022208) :
    ∃ ks, gvSKeys .str m = some ks ∧ ks.Pairwise (fun a b => lessS a b = true) ∧ (∀ x, x ∈ ks ↔ x ∈ m.map Prod.fst) ∧ ks.length = m.length := by
  have hperm : ((((m.map Prod.fst).map fun x : ByteArray => x.data.toList).mergeSort leB).map fun x => (⟨x.toArray⟩ : ByteArray)).Perm (m.map Prod.fst) := by
    refine ((List.mergeSort_perm _ leB).map _).trans ?_
    rw [List.map_map]
    rw [show ((fun x : List UInt8 => (⟨x.toArray⟩ : ByteArray)) ∘ fun x : ByteArray => x.data.toList) = id from by funext x; simp]
    simp
  refine ⟨_, ?_, ?_, fun x => hperm.mem_iff, by rw [hperm.length_eq]; simp⟩
  · unfold gvSKeys gvKeys
    rw [if_pos ⟨hsz, by rw [List.length_map]; exact hl, hnd⟩]
  · have tr : ∀ a b c : List UInt8, leB a b = true → leB b c = true → leB a c = true := fun a b c h1 h2 => by simp only [leB, decide_eq_true_eq] at *; exact List.le_trans h1 h2
    have to : ∀ a b : List UInt8, (leB a b || leB b a) = true := fun a b => by simp only [leB, Bool.or_eq_true, decide_eq_true_eq]; exact List.le_total a b
    have h1 := List.pairwise_mergeSort tr to ((m.map Prod.fst).map fun x : ByteArray => x.data.toList)
    have h2 : (((m.map Prod.fst).map fun x : ByteArray => x.data.toList).mergeSort leB).Nodup := (List.mergeSort_perm _ leB).nodup_iff.2 (List.pairwise_map.2 (hnd.imp fun {a b} hab e => hab (Go.WideShapes.bytes_inj e)))
    refine List.pairwise_map.2 ((h1.and h2).imp fun {a b} h => ?_)
    rw [lessS_lt]
    have hle : a ≤ b := by simpa [leB] using h.1
    show a < b
    rcases List.le_iff_lt_or_eq.1 hle with h3 | h3
    · exact h3
    · exact absurd h3 h.2
def sortC (c : List CellT) : Prop := c.Pairwise fun a b => lessS a.1 b.1 = true
theorem lessS_tot {a b : ByteArray} (h : ¬ lessS a b = true) (hne : a ≠ b) : lessS b a = true := by
  rw [lessS_lt] at h ⊢
  rcases List.le_iff_lt_or_eq.1 (List.not_lt.1 h) with h3 | h3
  · exact h3
  · exact absurd (Go.WideShapes.bytes_inj h3).symm hne
theorem putC_mem : ∀ (c : List CellT) (x y : CellT), sortC c → (y ∈ putC c x ↔ y = x ∨ (y ∈ c ∧ y.1 ≠ x.1))
  | [], x, y, _ => by simp [putC]
  | z :: c, x, y, hs => by
    obtain ⟨h1, h2⟩ := List.pairwise_cons.1 hs
    have ih := putC_mem c x y h2
    simp only [putC]
    by_cases ha : lessS z.1 x.1 = true
    · have hne : z.1 ≠ x.1 := fun e => by rw [e, lessS_irrefl] at ha; cases ha
      rw [if_pos ha, List.mem_cons, ih, List.mem_cons]
      constructor
      · rintro (rfl | h | ⟨h, h'⟩)
        · exact .inr ⟨.inl rfl, hne⟩
        · exact .inl h
        · exact .inr ⟨.inr h, h'⟩
      · rintro (h | ⟨rfl | h, h'⟩)
        · exact .inr (.inl h)
        · exact .inl rfl
        · exact .inr (.inr ⟨h, h'⟩)
    · rw [if_neg ha]
      by_cases hb : z.1 = x.1
      · rw [if_pos hb, List.mem_cons, List.mem_cons]
        constructor
        · rintro (h | h)
          · exact .inl h
          · refine .inr ⟨.inr h, fun e => ?_⟩
            have := h1 y h
            rw [hb, e, lessS_irrefl] at this; cases this
        · rintro (h | ⟨rfl | h, h'⟩)
          · exact .inl h
          · exact absurd hb h'
          · exact .inr h
      · rw [if_neg hb, List.mem_cons]
        have hx : lessS x.1 z.1 = true := lessS_tot ha hb
        constructor
        · rintro (h | h)
          · exact .inl h
          · refine .inr ⟨h, fun e => ?_⟩
            rcases List.mem_cons.1 h with rfl | h
            · exact hb e
            · have := lessS_trans hx (h1 y h)
              rw [e, lessS_irrefl] at this; cases this
        · rintro (h | ⟨h, _⟩)
          · exact .inl h
          · exact .inr h
theorem putC_sort : ∀ (c : List CellT) (x : CellT), sortC c → sortC (putC c x)
  | [], x, _ => by simp [putC, sortC]
  | z :: c, x, hs => by
    obtain ⟨h1, h2⟩ := List.pairwise_cons.1 hs
    have ih := putC_sort c x h2
    simp only [putC]
    by_cases ha : lessS z.1 x.1 = true
    · rw [if_pos ha]
      refine List.pairwise_cons.2 ⟨fun y hy => ?_, ih⟩
      rcases (putC_mem c x y h2).1 hy with rfl | ⟨h, _⟩
      · exact ha
      · exact h1 y h
    · rw [if_neg ha]
      by_cases hb : z.1 = x.1
      · rw [if_pos hb]
        exact List.pairwise_cons.2 ⟨fun y hy => by rw [← hb]; exact h1 y hy, h2⟩
      · rw [if_neg hb]
        refine List.pairwise_cons.2 ⟨fun y hy => ?_, hs⟩
        have hx : lessS x.1 z.1 = true := lessS_tot ha hb
        rcases List.mem_cons.1 hy with rfl | hy
        · exact hx
        · exact lessS_trans hx (h1 y hy)
theorem mput_keys : ∀ (m : List CellT) (k v : ByteArray) (x : ByteArray), x ∈ (mputT .str .str m k v).map Prod.fst ↔ x = k ∨ x ∈ m.map Prod.fst
  | [], k, v, x => by simp [mputT]
  | p :: m, k, v, x => by
    have ih := mput_keys m k v x
    by_cases h : k = p.1
    · subst h; simp [mputT, eqT]
    · simp only [mputT, eqT, decide_eq_true_eq, h, decide_false, cond_false, List.map_cons, List.mem_cons, ih]
      constructor
      · rintro (h | h | h)
        · exact .inr (.inl h)
        · exact .inl h
        · exact .inr (.inr h)
      · rintro (h | h | h)
        · exact .inr (.inl h)
        · exact .inl h
        · exact .inr (.inr h)
theorem mput_nodup : ∀ (m : List CellT) (k v : ByteArray), (m.map Prod.fst).Nodup → ((mputT .str .str m k v).map Prod.fst).Nodup
  | [], k, v, _ => by simp [mputT]
  | p :: m, k, v, h => by
    obtain ⟨h1, h2⟩ := List.nodup_cons.1 h
    have ih := mput_nodup m k v h2
    by_cases hk : k = p.1
    · subst hk; simpa [mputT, eqT] using ⟨by simpa using h1, h2⟩
    · simp only [mputT, eqT, decide_eq_true_eq, hk, decide_false, cond_false, List.map_cons]
      exact List.nodup_cons.2 ⟨fun hx => ((mput_keys m k v p.1).1 hx).elim (fun e => hk e.symm) h1, ih⟩
/-- the cells that a map tells -/
def toldC (c m : List CellT) : Prop := sortC c ∧ (m.map Prod.fst).Nodup ∧ (∀ x, x ∈ c.map Prod.fst ↔ x ∈ m.map Prod.fst) ∧ ∀ x ∈ c, mgetT .str .str m x.1 = x.2
theorem toldC.nil : toldC [] [] := ⟨List.Pairwise.nil, List.nodup_nil, by simp, by simp⟩
theorem toldC.put {c m : List CellT} (h : toldC c m) (k v : ByteArray) : toldC (putC c (k, v)) (mputT .str .str m k v) := by
  obtain ⟨h1, h2, h3, h4⟩ := h
  refine ⟨putC_sort c _ h1, mput_nodup m k v h2, fun x => ?_, fun x hx => ?_⟩
  · rw [mput_keys, ← h3 x]
    simp only [List.mem_map, putC_mem c (k, v) _ h1]
    constructor
    · rintro ⟨y, rfl | ⟨h, h'⟩, rfl⟩
      · exact .inl rfl
      · exact .inr ⟨y, h, rfl⟩
    · rintro (rfl | ⟨y, h, rfl⟩)
      · exact ⟨(x, v), .inl rfl, rfl⟩
      · by_cases he : y.1 = k
        · exact ⟨(k, v), .inl rfl, he.symm⟩
        · exact ⟨y, .inr ⟨h, he⟩, rfl⟩
  · rw [mgetSS_put]
    rcases (putC_mem c (k, v) x h1).1 hx with rfl | ⟨h, h'⟩
    · rw [if_pos rfl]
    · rw [if_neg (fun e => h' e.symm)]; exact h4 x h
theorem toldC.keys {c m : List CellT} (h : toldC c m) (hsz : ∀ x ∈ c.map Prod.fst, x.size ≤ maxLen) (hl : c.length ≤ 8796093022208) : gvSKeys .str m = some (c.map Prod.fst) := by
  obtain ⟨h1, h2, h3, h4⟩ := h
  have hcn : (c.map Prod.fst).Nodup := List.pairwise_map.2 (h1.imp fun {a b} h e => by rw [e, lessS_irrefl] at h; cases h)
  have hp : (c.map Prod.fst).Perm (m.map Prod.fst) := (List.perm_ext_iff_of_nodup hcn h2).2 h3
  have hlen : m.length = c.length := by have := hp.length_eq; simpa using this.symm
  obtain ⟨ks, e1, e2, e3, e4⟩ := skeys_some m h2 (fun x hx => hsz x ((h3 x).2 hx)) (by omega)
  rw [e1]
  congr 1
  refine List.Perm.eq_of_pairwise (le := fun a b => lessS a b = true) (fun a b _ _ h1 h2 => ?_) e2 (List.pairwise_map.2 h1) ((List.perm_ext_iff_of_nodup ?_ hcn).2 fun x => (e3 x).trans (h3 x).symm)
  · have := lessS_trans h1 h2
    rw [lessS_irrefl] at this; cases this
  · exact e2.imp fun {a b} h e => by rw [e, lessS_irrefl] at h; cases h

/-! ### cellsof -/
theorem cellsOf_ev (c m : List CellT) (h : toldC c m) (hsz : ∀ x ∈ c.map Prod.fst, x.size ≤ 1048576) (hl : c.length ≤ 1099511627776) : Ev (fun k => impl_cellsOf k m) c := by
  have hk := h.keys (fun x hx => Nat.le_trans (hsz x hx) (by decide)) (by omega)
  refine ev_congr (fun k => impl_cellsOf_eq k m) (ev_bind (a := c.map Prod.fst) (by rw [hk]; exact ev_some _) ?_)
  have key : ∀ (rest : List CellT) (n : Nat) (acc : List CellT), c.drop n = rest → c.length = n + rest.length → acc.length = n → Ev (fun k => impl_cellsOf_h3 k m acc (c.map Prod.fst) (((c.map Prod.fst).length : Nat) : Int) (n : Int)) (acc ++ rest) := by
    intro rest
    induction rest with
    | nil =>
      intro n acc hd hlen ha
      simp at hlen
      exact ev_last fun k => by rw [impl_cellsOf_h3_eq, if_neg (by simp; omega)]; simp
    | cons x rest ih =>
      intro n acc hd hlen ha
      simp only [List.length_cons] at hlen
      have hx : c[n]? = some x := by
        have := congrArg (fun z : List CellT => z[0]?) hd
        simpa only [List.getElem?_drop, Nat.add_zero, List.getElem?_cons_zero] using this
      have hx1 : (c.map Prod.fst)[n]? = some x.1 := by rw [List.getElem?_map, hx]; rfl
      have hm := h.2.2.2 x (List.mem_of_getElem? hx)
      have hcl : (c.map Prod.fst).length = c.length := by simp
      refine ev_shift ?_
      simp only [impl_cellsOf_h3_eq, ev_ite_iff, rdT_get (e := .str) hx1, hm, wrap_nat (show n < 9223372036854775807 by omega)]
      rw [if_pos (by omega), if_pos (by omega), if_pos (by omega), if_pos (by simp only [List.length_cons, List.length_nil]; omega)]
      have := ih (n + 1) (acc ++ [x]) (drop_next hd) (by omega) (by simp; omega)
      simpa using this
  simpa using key c 0 [] rfl (by simp) rfl

/-! ### cellval -/
theorem l3Value_ev (l : List CellT) (key : ByteArray) (hl : l.length ≤ 1048576) : Ev (fun k => spec_l3Value k l key) (valC l key) := by
  refine ev_congr (fun k => spec_l3Value_eq k l key) ?_
  refine drop_ind0 l (fun n rest => Ev (fun k => spec_l3Value_h2 k key l (l.length : Int) (n : Int)) (valC rest key)) ?_ ?_
  · exact ev_last fun k => by rw [spec_l3Value_h2_eq, if_neg (by omega)]; rfl
  · intro n y rest hn hy _ ih
    have q0 : (0 : Int) ≤ (n : Int) := by omega
    have q1 : (n : Int) < (l.length : Int) := by omega
    refine ev_shift ?_
    simp only [spec_l3Value_h2_eq, rdT_get (e := CellK) hy, wrap_nat (show n < 9223372036854775807 by omega), ev_ite_iff, ev_none_iff, ev_some_iff, valC]
    rw [if_pos q1, if_pos q0, if_pos q1]
    by_cases h : y.1 = key
    · rw [if_pos h, if_pos h]
    · rw [if_neg h, if_neg h]; exact ih

/-! ### cats -/
theorem wrap_i64 {x : Int} (h0 : -9223372036854775808 ≤ x) (h1 : x ≤ 9223372036854775807) : IntKind.wrap .i64 x = x := by
  rw [← wrapK_eq]; unfold wrapK; rw [if_pos rfl]; exact wrap_of h0 h1
theorem catS_size0 (a b : ByteArray) : (catS a b).size = a.size + b.size := by
  show (catS a b).data.size = a.data.size + b.data.size
  simp [catS]

/-! ### mtext -/
theorem mt_ex : ∀ (n : Nat) (acc : ByteArray), acc.size + n ≤ 1099511627776 → ∃ r, Ev (fun k => laws_markText_h4 k (n : Int) acc) r := by
  intro n
  induction n using Nat.strongRecOn with
  | ind n ih =>
    intro acc ha
    by_cases h0 : n = 0
    · subst h0
      refine ⟨catS (ByteArray.mk (Array.mk (List.cons 109 []))) acc, ev_last fun k => ?_⟩
      rw [laws_markText_h4_eq, if_neg (by omega), if_pos (by have : (ByteArray.mk (Array.mk (List.cons 109 []))).size = 1 := rfl; omega)]
    · have hd : Int.tdiv (n : Int) 10 = ((n / 10 : Nat) : Int) := by rw [Int.tdiv_eq_ediv_of_nonneg (by omega)]; omega
      obtain ⟨r, hr⟩ := ih (n / 10) (by omega) (catS (bytesOf [IntKind.wrap .u8 (wrap64 (48 + Int.tmod (n : Int) 10))]) acc) (by
        rw [catS_size0]
        have : (bytesOf [IntKind.wrap .u8 (wrap64 (48 + Int.tmod (n : Int) 10))]).size = 1 := rfl
        omega)
      refine ⟨r, ev_shift ?_⟩
      simp only [laws_markText_h4_eq, ev_ite_iff, hd, wrap_i64 (x := ((n / 10 : Nat) : Int)) (by omega) (by omega)]
      have : (bytesOf [IntKind.wrap .u8 (wrap64 (48 + Int.tmod (n : Int) 10))]).size = 1 := rfl
      rw [if_pos (by omega), if_pos (by omega)]
      exact hr
theorem mark_ex (n : Int) (hn : n ≤ 1073741824) : ∃ r, Ev (fun k => laws_markText k n) r := by
  by_cases h : n ≤ 0
  · exact ⟨_, ev_congr (fun k => laws_markText_eq k n) (ev_if_pos h (ev_some _))⟩
  · obtain ⟨r, hr⟩ := mt_ex n.toNat (ByteArray.mk (Array.mk [])) (by have : (ByteArray.mk (Array.mk [])).size = 0 := rfl; omega)
    refine ⟨r, ev_congr (fun k => laws_markText_eq k n) (ev_if_neg h ?_)⟩
    rw [show ((n.toNat : Nat) : Int) = n by omega] at hr
    exact hr
open Classical in
noncomputable def mtx (n : Int) : ByteArray := if h : ∃ r, Ev (fun k => laws_markText k n) r then Classical.choose h else ByteArray.mk (Array.mk [])
theorem mtx_ev (n : Int) (hn : n ≤ 1073741824) : Ev (fun k => laws_markText k n) (mtx n) := by
  have h := mark_ex n hn
  unfold mtx
  rw [dif_pos h]
  exact Classical.choose_spec h

/-! ### mtext2 -/
/-- a mark's text, whatever the mark -/
theorem mt_ex2 : ∀ (d n : Nat) (acc : ByteArray), n < 10 ^ d → n ≤ 4611686018427387904 → acc.size + d ≤ 1099511627776 → ∃ r, Ev (fun k => laws_markText_h4 k (n : Int) acc) r := by
  intro d
  induction d with
  | zero =>
    intro n acc hn _ ha
    have : n = 0 := by simpa using hn
    subst this
    refine ⟨catS (ByteArray.mk (Array.mk (List.cons 109 []))) acc, ev_last fun k => ?_⟩
    rw [laws_markText_h4_eq, if_neg (by omega), if_pos (by have : (ByteArray.mk (Array.mk (List.cons 109 []))).size = 1 := rfl; omega)]
  | succ d ih =>
    intro n acc hn hb ha
    by_cases h0 : n = 0
    · subst h0
      refine ⟨catS (ByteArray.mk (Array.mk (List.cons 109 []))) acc, ev_last fun k => ?_⟩
      rw [laws_markText_h4_eq, if_neg (by omega), if_pos (by have : (ByteArray.mk (Array.mk (List.cons 109 []))).size = 1 := rfl; omega)]
    · have hd : Int.tdiv (n : Int) 10 = ((n / 10 : Nat) : Int) := by rw [Int.tdiv_eq_ediv_of_nonneg (by omega)]; omega
      obtain ⟨r, hr⟩ := ih (n / 10) (catS (bytesOf [IntKind.wrap .u8 (wrap64 (48 + Int.tmod (n : Int) 10))]) acc) (by
        rw [Nat.pow_succ] at hn; omega) (by omega) (by
        rw [catS_size0]
        have : (bytesOf [IntKind.wrap .u8 (wrap64 (48 + Int.tmod (n : Int) 10))]).size = 1 := rfl
        omega)
      refine ⟨r, ev_shift ?_⟩
      simp only [laws_markText_h4_eq, ev_ite_iff, hd, wrap_i64 (x := ((n / 10 : Nat) : Int)) (by omega) (by omega)]
      have : (bytesOf [IntKind.wrap .u8 (wrap64 (48 + Int.tmod (n : Int) 10))]).size = 1 := rfl
      rw [if_pos (by omega), if_pos (by omega)]
      exact hr
theorem mark_ex2 (n : Int) (hn : n ≤ 4611686018427387904) : ∃ r, Ev (fun k => laws_markText k n) r := by
  by_cases h : n ≤ 0
  · exact ⟨_, ev_congr (fun k => laws_markText_eq k n) (ev_if_pos h (ev_some _))⟩
  · obtain ⟨r, hr⟩ := mt_ex2 19 n.toNat (ByteArray.mk (Array.mk [])) (by omega) (by omega) (by have : (ByteArray.mk (Array.mk [])).size = 0 := rfl; omega)
    refine ⟨r, ev_congr (fun k => laws_markText_eq k n) (ev_if_neg h ?_)⟩
    rw [show ((n.toNat : Nat) : Int) = n by omega] at hr
    exact hr

/-! ### mtx2 -/
open Classical in
noncomputable def mty (n : Int) : ByteArray := if h : ∃ r, Ev (fun k => laws_markText k n) r then Classical.choose h else ByteArray.mk (Array.mk [])
theorem mty_ev (n : Int) (hn : n ≤ 4611686018427387904) : Ev (fun k => laws_markText k n) (mty n) := by
  have h := mark_ex2 n hn
  unfold mty
  rw [dif_pos h]
  exact Classical.choose_spec h
theorem incsL (c : Int) (h0 : 0 ≤ c) (hm : c ≤ 4611686018427387904) : wrap64 (c + 1) = c + 1 ∧ wrap64 (c + 1 + 1) = c + 2 ∧ wrap64 (c + 2 + 1) = c + 3 ∧ wrap64 (c + 3 + 1) = c + 4 ∧ wrap64 (c + 4 + 1) = c + 5 ∧ wrap64 (c + 5 + 1) = c + 6 :=
  ⟨by rw [wrap_of (by omega) (by omega)], by rw [wrap_of (by omega) (by omega)]; omega, by rw [wrap_of (by omega) (by omega)]; omega, by rw [wrap_of (by omega) (by omega)]; omega, by rw [wrap_of (by omega) (by omega)]; omega, by rw [wrap_of (by omega) (by omega)]; omega⟩

/-! ### markcell -/
noncomputable def emCell (m : Int) : CellT := (mty m, mty (m + 1))
theorem upCell {xs : List CellT} {n : Nat} {x : CellT} (hx : xs[n]? = some x) (v0 v1 : ByteArray) :
    upAt CellK [1] .str v1 (upAt CellK [0] .str v0 xs (n : Int)) (n : Int) = xs.set n (v0, v1) := by
  have hn : n < xs.length := (List.getElem?_eq_some_iff.1 hx).1
  rw [upAt_get (e := CellK) (k := .str) (w := (v0, x.2)) hx rfl, upAt_set (e := CellK) (k := .str) (w := (v0, v1)) hn rfl]
theorem upLenCell (p : List Nat) (k : Kind) (y : k.T) (l : List CellT) (i : Int) : @List.length CellT (upAt CellK p k y l i) = @List.length CellT l := upAt_len (e := CellK)
theorem markCellS_ev (l : List CellT) (m : Int) (h0 : 0 ≤ m) (hm : m + 2 * l.length ≤ 4611686018427387904) : Ev (fun k => laws_markCellS k l m) (mkList emCell m 2 l.length, m + 2 * (l.length : Int)) := by
  refine ev_congr (fun k => laws_markCellS_eq k l m) ?_
  refine mark_loop (fun k l c i => laws_markCellS_h2 k l c i) emCell m 2 l.length (fun k xs c hx => ?_) (fun n xs r hn hx H => ?_) l rfl
  · rw [laws_markCellS_h2_eq, if_neg (by omega)]
  · obtain ⟨e1, e2, e3, e4, e5, e6⟩ := incsL (m + 2 * (n : Int)) (by omega) (by omega)
    have hnx : n < xs.length := by omega
    have hg : xs[n]? = some xs[n] := List.getElem?_eq_getElem hnx
    generalize xs[n] = x at hg
    have d2 : (n : Int) < (xs.length : Int) := by omega
    have d3 : (0 : Int) ≤ (n : Int) := by omega
    have e10 : m + 2 * (n : Int) + 2 = m + 2 * ((n + 1 : Nat) : Int) := by omega
    refine ev_shift ?_
    simp only [laws_markCellS_h2_eq, ev_ite_iff, e1, e2, e3, e4, e5, e6, wrap_nat (show n < 9223372036854775807 by omega), upLenCell, if_pos d2, if_pos d3, ev_bind_iff (mty_ev (m + 2 * (n : Int)) (by omega)), ev_bind_iff (mty_ev (m + 2 * (n : Int) + 1) (by omega)), upCell hg, e10]
    exact H

/-! ### heldcell -/
theorem heldCellS_ev (m : Int) (N : Nat) (h0 : 0 ≤ m) (hm : m + 2 * N ≤ 4611686018427387904) : Ev (fun k => laws_heldCellS k (mkList emCell m 2 N) m) (m + 2 * (N : Int)) := by
  refine ev_congr (fun k => laws_heldCellS_eq k _ m) ?_
  have hl := mkList_len emCell m 2 N
  refine held_loop (fun k c i => laws_heldCellS_h2 k (mkList emCell m 2 N) c i) emCell m 2 N (fun k c => ?_) (fun n r hn hx H => ?_)
  · rw [laws_heldCellS_h2_eq, if_neg (by omega)]
  · obtain ⟨e1, e2, e3, e4, e5, e6⟩ := incsL (m + 2 * (n : Int)) (by omega) (by omega)
    have d1 : (n : Int) < ((mkList emCell m 2 N).length : Int) := by omega
    have d3 : (0 : Int) ≤ (n : Int) := by omega
    have e10 : m + 2 * (n : Int) + 2 = m + 2 * ((n + 1 : Nat) : Int) := by omega
    refine ev_shift ?_
    simp only [laws_heldCellS_h2_eq, ev_ite_iff, ev_some_iff, ev_none_iff, e1, e2, wrap_nat (show n < 9223372036854775807 by omega), rdT_get (e := CellK) hx, if_pos d1, if_pos d3, ev_bind_iff (mty_ev (m + 2 * (n : Int)) (by omega)), ev_bind_iff (mty_ev (m + 2 * (n : Int) + 1) (by omega)), emCell, e10]
    simpa using H

/-! ### markop3 -/
noncomputable def emOp (m : Int) : OpT := (m, m + 1, mtx (m + 2))
theorem upOp {xs : List OpT} {n : Nat} {x : OpT} (hx : xs[n]? = some x) (v0 v1 : Int) (v2 : ByteArray) :
    upAt OpK [2] .str v2 (upAt OpK [1] (.int .i64) v1 (upAt OpK [0] (.int .i64) v0 xs (n : Int)) (n : Int)) (n : Int) = xs.set n (v0, v1, v2) := by
  have hn : n < xs.length := (List.getElem?_eq_some_iff.1 hx).1
  rw [upAt_get (e := OpK) (k := .int .i64) (w := (v0, x.2)) hx rfl, upAt_set (e := OpK) (k := .int .i64) (w := (v0, v1, x.2.2)) hn rfl, upAt_set (e := OpK) (k := .str) (w := (v0, v1, v2)) hn rfl]
theorem upLenOp (p : List Nat) (k : Kind) (y : k.T) (l : List OpT) (i : Int) : @List.length OpT (upAt OpK p k y l i) = @List.length OpT l := upAt_len (e := OpK)
theorem markOpS_ev (l : List OpT) (m : Int) (h0 : 0 ≤ m) (hm : m + 3 * l.length ≤ 1073741824) : Ev (fun k => laws_markOpS k l m) (mkList emOp m 3 l.length, m + 3 * (l.length : Int)) := by
  refine ev_congr (fun k => laws_markOpS_eq k l m) ?_
  refine mark_loop (fun k l c i => laws_markOpS_h2 k l c i) emOp m 3 l.length (fun k xs c hx => ?_) (fun n xs r hn hx H => ?_) l rfl
  · rw [laws_markOpS_h2_eq, if_neg (by omega)]
  · have e1 : wrap64 (m + 3 * (n : Int) + 1) = m + 3 * (n : Int) + 1 := wrap_of (by omega) (by omega)
    have e2 : wrap64 (m + 3 * (n : Int) + 1 + 1) = m + 3 * (n : Int) + 2 := by rw [wrap_of (by omega) (by omega)]; omega
    have e3 : wrap64 (m + 3 * (n : Int) + 2 + 1) = m + 3 * ((n + 1 : Nat) : Int) := by rw [wrap_of (by omega) (by omega)]; omega
    have hnx : n < xs.length := by omega
    have hg : xs[n]? = some xs[n] := List.getElem?_eq_getElem hnx
    generalize xs[n] = x at hg
    have d2 : (n : Int) < (xs.length : Int) := by omega
    have d3 : (0 : Int) ≤ (n : Int) := by omega
    refine ev_shift ?_
    simp only [laws_markOpS_h2_eq, ev_ite_iff, e1, e2, e3, wrap_nat (show n < 9223372036854775807 by omega), upLenOp, if_pos d2, if_pos d3, ev_bind_iff (mtx_ev (m + 3 * (n : Int) + 2) (by omega)), upOp hg]
    exact H

/-! ### strs -/
/-! rows of texts -/
theorem eqStringS_ev (l) (hl : l.length ≤ 140737488355328) : Ev (fun k => laws_eqStringS k l l) true := by
  refine ev_congr (fun k => laws_eqStringS_eq k l l) ?_
  simp only [ev_ite_iff]
  rw [if_neg (by simp)]
  exact eq_row0 (e := .str) (l := l) (c := fun x y => x = y) (fun k a b i => laws_eqStringS_h4_eq k a b i) (fun x => rfl) (by omega)
noncomputable def emStr (m : Int) : ByteArray := mty m
theorem markStringS_ev (l : List ByteArray) (m : Int) (h0 : 0 ≤ m) (hm : m + l.length ≤ 4611686018427387904) : Ev (fun k => laws_markStringS k l m) (mkList emStr m 1 l.length, m + 1 * (l.length : Int)) := by
  refine ev_congr (fun k => laws_markStringS_eq k l m) ?_
  refine mark_loop (fun k l c i => laws_markStringS_h2 k l c i) emStr m 1 l.length (fun k xs c hx => ?_) (fun n xs r hn hx H => ?_) l rfl
  · rw [laws_markStringS_h2_eq, if_neg (by omega)]
  · have e1 : wrap64 (m + 1 * (n : Int) + 1) = m + 1 * ((n + 1 : Nat) : Int) := by rw [wrap_of (by omega) (by omega)]; omega
    refine ev_shift ?_
    simp only [laws_markStringS_h2_eq, ev_ite_iff, ev_none_iff, e1, wrap_nat (show n < 9223372036854775807 by omega), Int.toNat_natCast, ev_bind_iff (mty_ev (m + 1 * (n : Int)) (by omega))]
    rw [if_pos (by omega), if_pos (by omega), if_pos (by omega)]
    exact H
theorem heldStringS_ev (m : Int) (N : Nat) (h0 : 0 ≤ m) (hm : m + N ≤ 4611686018427387904) : Ev (fun k => laws_heldStringS k (mkList emStr m 1 N) m) (m + 1 * (N : Int)) := by
  refine ev_congr (fun k => laws_heldStringS_eq k _ m) ?_
  have hl := mkList_len emStr m 1 N
  refine held_loop (fun k c i => laws_heldStringS_h2 k (mkList emStr m 1 N) c i) emStr m 1 N (fun k c => ?_) (fun n r hn hx H => ?_)
  · rw [laws_heldStringS_h2_eq, if_neg (by omega)]
  · have e1 : wrap64 (m + 1 * (n : Int) + 1) = m + 1 * ((n + 1 : Nat) : Int) := by rw [wrap_of (by omega) (by omega)]; omega
    refine ev_shift ?_
    simp only [laws_heldStringS_h2_eq, ev_ite_iff, ev_none_iff, ev_some_iff, e1, wrap_nat (show n < 9223372036854775807 by omega), rdT_get (e := .str) hx, ev_bind_iff (mty_ev (m + 1 * (n : Int)) (by omega)), emStr]
    rw [if_pos (by omega), if_pos (by omega), if_pos (by omega), if_neg (by simp)]
    exact H

/-! ### itoa0 -/
/-! the digits of a number -/
theorem nDigits_le (u : Nat) : Lib.nDigits u ≤ u + 1 := by
  induction u using Nat.strongRecOn with
  | _ u ih =>
    by_cases h : u < 10
    · rw [Lib.nDigits_small h]; omega
    · rw [Lib.nDigits_big h]
      have := ih (u / 10) (by omega)
      omega
theorem itoa_size (n : Nat) : (gvItoa (n : Int)).size ≤ n + 1 := by
  have h : (gvItoa (n : Int)).size = (Lib.decDigits n).length := by
    show ((Lib.itoa (n : Int)).toArray).size = _
    rw [Lib.itoa_nonneg]; simp
  rw [h, Lib.decDigits_length]
  exact nDigits_le n
theorem digit_one {n : Nat} (h : n < 10) : bytesOf [IntKind.wrap .u8 (wrap64 (48 + (n : Int)))] = ⟨[UInt8.ofNat (48 + n)].toArray⟩ := by
  have : n = 0 ∨ n = 1 ∨ n = 2 ∨ n = 3 ∨ n = 4 ∨ n = 5 ∨ n = 6 ∨ n = 7 ∨ n = 8 ∨ n = 9 := by omega
  rcases this with rfl | rfl | rfl | rfl | rfl | rfl | rfl | rfl | rfl | rfl <;> decide +kernel
theorem digit_size (z : Int) : (bytesOf [z]).size = 1 := rfl
theorem l1Num_ev : ∀ (n : Nat), n ≤ 1073741824 → Ev (fun k => spec_l1Num k (n : Int)) (gvItoa (n : Int)) := by
  intro n
  induction n using Nat.strongRecOn with
  | _ n ih =>
    intro hn
    refine ev_shift ?_
    by_cases h : n < 10
    · simp only [spec_l1Num_eq, ev_ite_iff, ev_some_iff]
      rw [if_pos (by omega), digit_one h]
      unfold gvItoa
      rw [Lib.itoa_nonneg, Lib.decDigits_one h]
    · have hd : Int.tdiv (n : Int) 10 = ((n / 10 : Nat) : Int) := by rw [Int.tdiv_eq_ediv_of_nonneg (by omega)]; omega
      have hm : Int.tmod (n : Int) 10 = ((n % 10 : Nat) : Int) := by rw [Int.tmod_eq_emod_of_nonneg (by omega)]; omega
      have hw : IntKind.wrap .i64 ((n / 10 : Nat) : Int) = ((n / 10 : Nat) : Int) := wrap_i64 (by omega) (by omega)
      simp only [spec_l1Num_eq, ev_ite_iff, hd, hw, hm, ev_bind_iff (ih (n / 10) (by omega) (by omega)), ev_some_iff, ev_none_iff, digit_size]
      have := itoa_size (n / 10)
      rw [if_neg (by omega), if_pos (by omega), digit_one (show n % 10 < 10 by omega)]
      unfold gvItoa catS
      rw [Lib.itoa_nonneg, Lib.itoa_nonneg]
      conv => rhs; rw [Lib.decDigits, dif_neg h]
theorem itoa_sizeI {n : Int} (h0 : 0 ≤ n) (h1 : n ≤ 16777216) : (gvItoa n).size ≤ 16777217 := by
  have := itoa_size n.toNat
  rw [show ((n.toNat : Nat) : Int) = n by omega] at this
  omega
theorem l1NumI_ev {n : Int} (h0 : 0 ≤ n) (h1 : n ≤ 16777216) : Ev (fun k => spec_l1Num k n) (gvItoa n) := by
  have := l1Num_ev n.toNat (by omega)
  rwa [show ((n.toNat : Nat) : Int) = n by omega] at this

/-! ### runops -/
/-! RunOps -/
abbrev RdK : Kind := .struct (.slice .str)
theorem nDig : ∀ (d u : Nat), u < 10 ^ (d + 1) → Lib.nDigits u ≤ d + 1
  | 0, u, h => by rw [Lib.nDigits_small (by simpa using h)]; exact Nat.le_refl _
  | d + 1, u, h => by
    by_cases hu : u < 10
    · rw [Lib.nDigits_small hu]; omega
    · rw [Lib.nDigits_big hu]
      have := nDig d (u / 10) (by rw [Nat.pow_succ] at h; omega)
      omega
theorem itoa_few {n : Int} (h0 : 0 ≤ n) (h1 : n ≤ 1048576) : (gvItoa n).size ≤ 7 := by
  obtain ⟨k, rfl⟩ := Int.eq_ofNat_of_zero_le h0
  have h : (gvItoa (k : Int)).size = (Lib.decDigits k).length := by
    show ((Lib.itoa (k : Int)).toArray).size = _
    rw [Lib.itoa_nonneg]; simp
  rw [h, Lib.decDigits_length]
  exact nDig 6 k (by omega)
def rdTx (t : Int) (key v : ByteArray) : ByteArray := catS (catS (catS (catS (ByteArray.mk (Array.mk (List.cons 114 []))) (gvItoa t)) key) (ByteArray.mk (Array.mk (List.cons 61 [])))) v
def wrTx (t a b : Int) : ByteArray := catS (catS (catS (catS (gvItoa t) (ByteArray.mk (Array.mk (List.cons 58 [])))) (gvItoa a)) (ByteArray.mk (Array.mk (List.cons 46 [])))) (gvItoa b)
def atI (l : List Int) (t : Int) : Int := rdT (.int .i64) l t
theorem atI_set {l : List Int} {t : Int} {v : Int} (i : Nat) (h0 : 0 ≤ t) (hl : t < l.length) : atI (List.set l t.toNat v) (i : Int) = if i = t.toNat then v else atI l (i : Int) := by
  unfold atI rdT
  simp only [Int.toNat_natCast, List.getD_eq_getElem?_getD]
  by_cases h : i = t.toNat
  · subst h; rw [if_pos rfl, List.getElem?_set_self (by omega)]; rfl
  · rw [if_neg h, List.getElem?_set_ne (Ne.symm h)]
def atR (l : List (List ByteArray)) (t : Int) : List ByteArray := rdT RdK l t
theorem atR_set {l : List (List ByteArray)} {t : Int} {v : List ByteArray} (i : Nat) (h0 : 0 ≤ t) (hl : t < l.length) : atR (List.set l t.toNat v) (i : Int) = if i = t.toNat then v else atR l (i : Int) := by
  unfold atR rdT
  simp only [Int.toNat_natCast, List.getD_eq_getElem?_getD]
  by_cases h : i = t.toNat
  · subst h; rw [if_pos rfl, List.getElem?_set_self (by omega)]; rfl
  · rw [if_neg h, List.getElem?_set_ne (Ne.symm h)]
/-- what is kept while it runs -/
structure Run (n : Nat) (c m : List CellT) (told many : List Int) (reads : List (List ByteArray)) : Prop where
  cl : c.length ≤ n
  cs : ∀ x ∈ c, x.1.size ≤ 8 ∧ x.2.size ≤ 40
  tl : told.length = 9
  ts : ∀ i : Nat, 0 ≤ atI told (i : Int) ∧ atI told (i : Int) ≤ 40 * (n : Int)
  ml : many.length = 9
  ms : ∀ i : Nat, 0 ≤ atI many (i : Int) ∧ atI many (i : Int) ≤ (n : Int)
  rl : reads.length = 9
  rs : ∀ i : Nat, (atR reads (i : Int)).length ≤ n
  tm : toldC c m
  vm : ∀ key, mgetT .str .str m key = valC c key
theorem valC_size {c : List CellT} (h : ∀ x ∈ c, x.1.size ≤ 8 ∧ x.2.size ≤ 40) (key : ByteArray) : (valC c key).size ≤ 40 := by
  induction c with
  | nil => show (ByteArray.mk #[]).size ≤ 40; decide
  | cons x c ih =>
    simp only [valC]
    split
    · exact (h x (by simp)).2
    · exact ih fun y hy => h y (by simp [hy])
theorem key8 {o : OpT} (h : opOk o = true) : (1 ≤ o.1 ∧ o.1 ≤ 3) ∧ (1 ≤ o.2.1 ∧ o.2.1 ≤ 8) ∧ o.2.2.size ≤ 8 := by
  simp only [opOk, Bool.and_eq_true, decide_eq_true_eq] at h
  obtain ⟨h1, h2, h3⟩ := h
  refine ⟨h1, h2, ?_⟩
  split at h3
  · have := of_decide_eq_true h3
    rw [this]; show (ByteArray.mk (Array.mk [])).size ≤ 8; decide
  · simp only [keyB, Bool.and_eq_true, decide_eq_true_eq] at h3
    exact h3.1.2
theorem atNat (l : List Int) {t : Int} (h : 0 ≤ t) : atI l t = atI l ((t.toNat : Nat) : Int) := by rw [show ((t.toNat : Nat) : Int) = t by omega]
theorem atNatR (l : List (List ByteArray)) {t : Int} (h : 0 ≤ t) : atR l t = atR l ((t.toNat : Nat) : Int) := by rw [show ((t.toNat : Nat) : Int) = t by omega]
section
variable {n : Nat} {c m : List CellT} {told many : List Int} {reads : List (List ByteArray)} {o : OpT}
/-- one more op of a transaction -/
theorem Run.count (h : Run n c m told many reads) (ht : 1 ≤ o.2.1 ∧ o.2.1 ≤ 8) : Run (n + 1) c m told (List.set many o.2.1.toNat (atI many o.2.1 + 1)) reads where
  cl := by have := h.cl; omega
  cs := h.cs
  tl := h.tl
  ts := fun i => by have := h.ts i; omega
  ml := by rw [List.length_set]; exact h.ml
  ms := fun i => by
    rw [atI_set i (by omega) (by rw [h.ml]; omega)]
    split
    · have := h.ms o.2.1.toNat
      rw [← atNat many (by omega)] at this
      omega
    · have := h.ms i; omega
  rl := h.rl
  rs := fun i => by have := h.rs i; omega
  tm := h.tm
  vm := h.vm
theorem Run.read (h : Run n c m told many reads) (ht : 1 ≤ o.2.1 ∧ o.2.1 ≤ 8) (x : ByteArray) {v : Int} (hv : 0 ≤ v ∧ v ≤ 40) :
    Run (n + 1) c m (List.set told o.2.1.toNat (atI told o.2.1 + v)) (List.set many o.2.1.toNat (atI many o.2.1 + 1)) (List.set reads o.2.1.toNat (atR reads o.2.1 ++ [x])) where
  cl := by have := h.cl; omega
  cs := h.cs
  tl := by rw [List.length_set]; exact h.tl
  ts := fun i => by
    rw [atI_set i (by omega) (by rw [h.tl]; omega)]
    split
    · have := h.ts o.2.1.toNat
      rw [← atNat told (by omega)] at this
      omega
    · have := h.ts i; omega
  ml := (h.count ht).ml
  ms := (h.count ht).ms
  rl := by rw [List.length_set]; exact h.rl
  rs := fun i => by
    rw [atR_set i (by omega) (by rw [h.rl]; omega)]
    split
    · have := h.rs o.2.1.toNat
      rw [← atNatR reads (by omega)] at this
      simp only [List.length_append, List.length_cons, List.length_nil]
      omega
    · have := h.rs i; omega
  tm := h.tm
  vm := h.vm
theorem Run.write (h : Run n c m told many reads) (ht : 1 ≤ o.2.1 ∧ o.2.1 ≤ 8) {key v : ByteArray} (hk : key.size ≤ 8) (hv : v.size ≤ 40) :
    Run (n + 1) (putC c (key, v)) (mputT .str .str m key v) told (List.set many o.2.1.toNat (atI many o.2.1 + 1)) reads where
  cl := by have := h.cl; have := putC_len c (key, v); omega
  cs := fun x hx => by
    rcases (putC_mem c (key, v) x h.tm.1).1 hx with rfl | ⟨hx, _⟩
    · exact ⟨hk, hv⟩
    · exact h.cs x hx
  tl := h.tl
  ts := (h.count ht).ts
  ml := (h.count ht).ml
  ms := (h.count ht).ms
  rl := h.rl
  rs := (h.count ht).rs
  tm := h.tm.put key v
  vm := fun x => by rw [mgetSS_put, valC_put, h.vm]
theorem Run.at_told (h : Run n c m told many reads) (ht : 1 ≤ o.2.1 ∧ o.2.1 ≤ 8) : 0 ≤ atI told o.2.1 ∧ atI told o.2.1 ≤ 40 * (n : Int) := by rw [atNat told (by omega)]; exact h.ts _
theorem Run.at_many (h : Run n c m told many reads) (ht : 1 ≤ o.2.1 ∧ o.2.1 ≤ 8) : 0 ≤ atI many o.2.1 ∧ atI many o.2.1 ≤ (n : Int) := by rw [atNat many (by omega)]; exact h.ms _
theorem Run.at_reads (h : Run n c m told many reads) (ht : 1 ≤ o.2.1 ∧ o.2.1 ≤ 8) : (atR reads o.2.1).length ≤ n := by rw [atNatR reads (by omega)]; exact h.rs _
end
/-! what reads told, one behind the other -/
theorem rd_get {l : List (List ByteArray)} {n : Nat} {x : List ByteArray} (h : l[n]? = some x) : rdT RdK l (n : Int) = x := rdT_get (e := RdK) h
theorem rd_get' {l : List (List ByteArray)} {n : Nat} {x : List ByteArray} (h : l[n]? = some x) : rdT (.slice .str) l (n : Int) = x := rdT_get (e := .slice .str) h
theorem specOut_ev (c : List CellT) (reads : List (List ByteArray)) (hl : reads.length = 9) (hx : ∀ x ∈ reads, x.length ≤ 60) : ∀ (rest : List (List ByteArray)) (n : Nat) (out : List ByteArray), reads.drop n = rest → reads.length = n + rest.length → out.length ≤ 60 * n →
    Ev (fun k => spec_RunOps_h21 k c out reads (reads.length : Int) (n : Int)) (out ++ rest.flatten, (c, true))
  | [], n, out, hd, hlen, ho => by
    simp at hlen
    exact ev_last fun k => by rw [spec_RunOps_h21_eq, if_neg (by omega)]; simp
  | x :: rest, n, out, hd, hlen, ho => by
    simp only [List.length_cons] at hlen
    have hg : reads[n]? = some x := by
      have := congrArg (fun z : List (List ByteArray) => z[0]?) hd
      simpa only [List.getElem?_drop, Nat.add_zero, List.getElem?_cons_zero] using this
    have hxl := hx x (List.mem_of_getElem? hg)
    refine ev_shift ?_
    simp only [spec_RunOps_h21_eq, ev_ite_iff, ev_none_iff, rd_get hg, wrap_nat (show n < 9223372036854775807 by omega)]
    rw [if_pos (by omega), if_pos (by omega), if_pos (by omega), if_pos (by omega)]
    have := specOut_ev c reads hl hx rest (n + 1) (out ++ x) (drop_next hd) (by omega) (by simp only [List.length_append]; omega)
    simpa using this
theorem implOut_ev (c m : List CellT) (reads : List (List ByteArray)) (hl : reads.length = 9) (hx : ∀ x ∈ reads, x.length ≤ 60) (hc : Ev (fun k => impl_cellsOf k m) c) : ∀ (rest : List (List ByteArray)) (n : Nat) (out : List ByteArray), reads.drop n = rest → reads.length = n + rest.length → out.length ≤ 60 * n →
    Ev (fun k => impl_runOps_h19 k m out reads (n : Int)) (out ++ rest.flatten, c)
  | [], n, out, hd, hlen, ho => by
    simp at hlen
    refine ev_shift ?_
    simp only [impl_runOps_h19_eq, ev_ite_iff]
    rw [if_neg (by omega)]
    exact ev_bind hc (by simpa using ev_some _)
  | x :: rest, n, out, hd, hlen, ho => by
    simp only [List.length_cons] at hlen
    have hg : reads[n]? = some x := by
      have := congrArg (fun z : List (List ByteArray) => z[0]?) hd
      simpa only [List.getElem?_drop, Nat.add_zero, List.getElem?_cons_zero] using this
    have hxl := hx x (List.mem_of_getElem? hg)
    refine ev_shift ?_
    simp only [impl_runOps_h19_eq, ev_ite_iff, ev_none_iff, rd_get' hg, wrap_nat (show n < 9223372036854775807 by omega)]
    rw [if_pos (by omega), if_pos (by omega), if_pos (by omega), if_pos (by omega)]
    have := implOut_ev c m reads hl hx hc rest (n + 1) (out ++ x) (drop_next hd) (by omega) (by simp only [List.length_append]; omega)
    simpa using this
theorem itoa_if {x : Int} (h0 : 0 ≤ x) (h1 : x ≤ 1048576) {g : ByteArray} : (if -9223372036854775808 ≤ x ∧ x ≤ 9223372036854775807 then Option.some g else Option.none) = some g := if_pos ⟨by omega, by omega⟩
theorem sz114 : (ByteArray.mk (Array.mk (List.cons 114 []))).size = 1 := rfl
theorem sz61 : (ByteArray.mk (Array.mk (List.cons 61 []))).size = 1 := rfl
theorem sz58 : (ByteArray.mk (Array.mk (List.cons 58 []))).size = 1 := rfl
theorem sz46 : (ByteArray.mk (Array.mk (List.cons 46 []))).size = 1 := rfl
theorem sizesR {g1 key w : ByteArray} (i1 : g1.size ≤ 7) (k3 : key.size ≤ 8) (hv : w.size ≤ 40) : (ByteArray.mk (Array.mk (List.cons 114 []))).size + g1.size ≤ 9223372036854775807 ∧ (catS (ByteArray.mk (Array.mk (List.cons 114 []))) g1).size + key.size ≤ 9223372036854775807 ∧ (catS (catS (ByteArray.mk (Array.mk (List.cons 114 []))) g1) key).size + (ByteArray.mk (Array.mk (List.cons 61 []))).size ≤ 9223372036854775807 ∧ (catS (catS (catS (ByteArray.mk (Array.mk (List.cons 114 []))) g1) key) (ByteArray.mk (Array.mk (List.cons 61 [])))).size + w.size ≤ 9223372036854775807 := by
  simp only [catS_size0, sz114, sz61]
  omega
theorem sizesW {g1 g2 g3 : ByteArray} (i1 : g1.size ≤ 7) (i2 : g2.size ≤ 7) (i3 : g3.size ≤ 7) : g1.size + (ByteArray.mk (Array.mk (List.cons 58 []))).size ≤ 9223372036854775807 ∧ (catS g1 (ByteArray.mk (Array.mk (List.cons 58 [])))).size + g2.size ≤ 9223372036854775807 ∧ (catS (catS g1 (ByteArray.mk (Array.mk (List.cons 58 [])))) g2).size + (ByteArray.mk (Array.mk (List.cons 46 []))).size ≤ 9223372036854775807 ∧ (catS (catS (catS g1 (ByteArray.mk (Array.mk (List.cons 58 [])))) g2) (ByteArray.mk (Array.mk (List.cons 46 [])))).size + g3.size ≤ 9223372036854775807 ∧ (catS (catS (catS (catS g1 (ByteArray.mk (Array.mk (List.cons 58 [])))) g2) (ByteArray.mk (Array.mk (List.cons 46 [])))) g3).size ≤ 40 := by
  simp only [catS_size0, sz58, sz46]
  omega
section
variable {l : List OpT} {n : Nat} {c m : List CellT} {told many : List Int} {reads : List (List ByteArray)} {o : OpT} {aT aM : Int} {aR : List ByteArray} {g1 g2 g3 w : ByteArray} {L : Int}
theorem s17 {r} (eM : rdT (.int .i64) many o.2.1 = aM) (wM : wrap64 (aM + 1) = aM + 1) (wN : wrap64 ((n : Int) + 1) = ((n + 1 : Nat) : Int)) (t0 : 0 ≤ o.2.1) (tm : o.2.1 < ((many.length : Nat) : Int))
    (hh : Ev (fun k => spec_RunOps_h8 k c told (List.set many o.2.1.toNat (aM + 1)) reads l L ((n + 1 : Nat) : Int)) r) : Ev (fun k => spec_RunOps_h17 k c told many reads o l L (n : Int)) r := by
  refine ev_shift ?_
  simp only [spec_RunOps_h17_eq, ev_ite_iff, eM, wM, wN]
  rw [if_pos t0, if_pos tm, if_pos t0, if_pos tm]
  exact hh
theorem p15 {r} (eM : rdT (.int .i64) many o.2.1 = aM) (wM : wrap64 (aM + 1) = aM + 1) (wN : wrap64 ((n : Int) + 1) = ((n + 1 : Nat) : Int)) (t0 : 0 ≤ o.2.1) (t9 : o.2.1 < ((9 : Nat) : Int))
    (hh : Ev (fun k => impl_runOps_h5 k m told (List.set many o.2.1.toNat (aM + 1)) reads l L ((n + 1 : Nat) : Int)) r) : Ev (fun k => impl_runOps_h15 k m told many reads o l L (n : Int)) r := by
  refine ev_shift ?_
  simp only [impl_runOps_h15_eq, ev_ite_iff, eM, wM, wN]
  rw [if_pos t0, if_pos t9, if_pos t0, if_pos t9]
  exact hh
theorem s1 {r} (hx : l[n]? = some o) (q0 : (0 : Int) ≤ (n : Int)) (q1 : (n : Int) < (l.length : Int)) (h1 : o.1 = 1) (t0 : 0 ≤ o.2.1) (tr : o.2.1 < ((reads.length : Nat) : Int)) (tt : o.2.1 < ((told.length : Nat) : Int)) (v1 : Ev (fun k => spec_l3Value k c o.2.2) w) (n1 : Ev (fun k => spec_l1Num k o.2.1) g1)
    (eT : rdT (.int .i64) told o.2.1 = aT) (eR : rdT RdK reads o.2.1 = aR) (wT : wrap64 (aT + ((w.size : Nat) : Int)) = aT + ((w.size : Nat) : Int)) (hr : aR.length + (List.cons (catS (catS (catS (catS (ByteArray.mk (Array.mk (List.cons 114 []))) g1) o.2.2) (ByteArray.mk (Array.mk (List.cons 61 [])))) w) []).length ≤ 8796093022208) (i1 : g1.size ≤ 7) (k3 : o.2.2.size ≤ 8) (hv : w.size ≤ 40)
    (hh : Ev (fun k => spec_RunOps_h17 k c (List.set told o.2.1.toNat (aT + ((w.size : Nat) : Int))) many (List.set reads o.2.1.toNat (aR ++ [(catS (catS (catS (catS (ByteArray.mk (Array.mk (List.cons 114 []))) g1) o.2.2) (ByteArray.mk (Array.mk (List.cons 61 [])))) w)])) o l (l.length : Int) (n : Int)) r) : Ev (fun k => spec_RunOps_h8 k c told many reads l (l.length : Int) (n : Int)) r := by
  obtain ⟨z1, z2, z3, z4⟩ := sizesR (key := o.2.2) i1 k3 hv
  refine ev_shift ?_
  simp only [spec_RunOps_h8_eq, ev_ite_iff, ev_none_iff, rdT_get (e := OpK) hx, ev_bind_iff v1, ev_bind_iff n1, eT, eR, wT]
  rw [if_pos q1, if_pos q0, if_pos q1, if_pos h1, if_pos t0, if_pos tr, if_pos z1, if_pos z2, if_pos z3, if_pos z4, if_pos hr, if_pos t0, if_pos tr, if_pos trivial, if_pos t0, if_pos tt, if_pos t0, if_pos tt]
  exact hh
theorem p1 {r} (hx : l[n]? = some o) (q0 : (0 : Int) ≤ (n : Int)) (q1 : (n : Int) < (l.length : Int)) (h1 : o.1 = 1) (t0 : 0 ≤ o.2.1) (t9 : o.2.1 < ((9 : Nat) : Int)) (hrl : reads.length = 9) (vm : mgetT .str .str m o.2.2 = w) (tx : o.2.1 ≤ 1048576) (hg1 : gvItoa o.2.1 = g1)
    (eT : rdT (.int .i64) told o.2.1 = aT) (eR : rdT RdK reads o.2.1 = aR) (wT : wrap64 (aT + ((w.size : Nat) : Int)) = aT + ((w.size : Nat) : Int)) (hr : aR.length + (List.cons (catS (catS (catS (catS (ByteArray.mk (Array.mk (List.cons 114 []))) g1) o.2.2) (ByteArray.mk (Array.mk (List.cons 61 [])))) w) []).length ≤ 8796093022208) (i1 : g1.size ≤ 7) (k3 : o.2.2.size ≤ 8) (hv : w.size ≤ 40)
    (hh : Ev (fun k => impl_runOps_h15 k m (List.set told o.2.1.toNat (aT + ((w.size : Nat) : Int))) many (List.set reads o.2.1.toNat (aR ++ [(catS (catS (catS (catS (ByteArray.mk (Array.mk (List.cons 114 []))) g1) o.2.2) (ByteArray.mk (Array.mk (List.cons 61 [])))) w)])) o l (l.length : Int) (n : Int)) r) : Ev (fun k => impl_runOps_h5 k m told many reads l (l.length : Int) (n : Int)) r := by
  obtain ⟨z1, z2, z3, z4⟩ := sizesR (key := o.2.2) i1 k3 hv
  refine ev_shift ?_
  simp only [impl_runOps_h5_eq, ev_ite_iff, ev_none_iff, rdT_get (e := OpK) hx, itoa_if t0 tx, Option.bind_some, hg1, vm, eT, eR, wT]
  rw [if_pos q1, if_pos q0, if_pos q1, if_pos h1, if_pos hrl, if_pos t0, if_pos t9, if_pos z1, if_pos z2, if_pos z3, if_pos z4, if_pos hr, if_pos hrl, if_pos t0, if_pos t9, if_pos trivial, if_pos t0, if_pos t9, if_pos t0, if_pos t9]
  exact hh
theorem s2 {r} {c' : List CellT} (hx : l[n]? = some o) (q0 : (0 : Int) ≤ (n : Int)) (q1 : (n : Int) < (l.length : Int)) (h1 : ¬ o.1 = 1) (h2 : o.1 = 2) (t0 : 0 ≤ o.2.1) (tt : o.2.1 < ((told.length : Nat) : Int)) (tm : o.2.1 < ((many.length : Nat) : Int)) (v1 : Ev (fun k => spec_l3Value k c o.2.2) w) (n1 : Ev (fun k => spec_l1Num k o.2.1) g1) (n2 : Ev (fun k => spec_l1Num k aT) g2) (n3 : Ev (fun k => spec_l1Num k aM) g3)
    (eT : rdT (.int .i64) told o.2.1 = aT) (eM : rdT (.int .i64) many o.2.1 = aM) (i1 : g1.size ≤ 7) (i2 : g2.size ≤ 7) (i3 : g3.size ≤ 7) (c4 : Ev (fun k => spec_l3Cells k c (o.2.2, (catS (catS (catS (catS g1 (ByteArray.mk (Array.mk (List.cons 58 [])))) g2) (ByteArray.mk (Array.mk (List.cons 46 [])))) g3))) c')
    (hh : Ev (fun k => spec_RunOps_h17 k c' told many reads o l (l.length : Int) (n : Int)) r) : Ev (fun k => spec_RunOps_h8 k c told many reads l (l.length : Int) (n : Int)) r := by
  obtain ⟨z1, z2, z3, z4, _⟩ := sizesW i1 i2 i3
  refine ev_shift ?_
  simp only [spec_RunOps_h8_eq, ev_ite_iff, ev_none_iff, rdT_get (e := OpK) hx, ev_bind_iff v1, ev_bind_iff n1, eT, eM, ev_bind_iff n2, ev_bind_iff n3]
  rw [if_pos q1, if_pos q0, if_pos q1, if_neg h1, if_pos h2, if_pos z1, if_pos t0, if_pos tt, if_pos z2, if_pos z3, if_pos t0, if_pos tm, if_pos z4]
  exact (ev_bind_iff c4).2 hh
theorem p2 {r} (hx : l[n]? = some o) (q0 : (0 : Int) ≤ (n : Int)) (q1 : (n : Int) < (l.length : Int)) (h1 : ¬ o.1 = 1) (h2 : o.1 = 2) (t0 : 0 ≤ o.2.1) (t9 : o.2.1 < ((9 : Nat) : Int)) (tx : o.2.1 ≤ 1048576) (a0 : 0 ≤ aT) (a1 : aT ≤ 1048576) (b0 : 0 ≤ aM) (b1 : aM ≤ 1048576) (hg1 : gvItoa o.2.1 = g1) (hg2 : gvItoa aT = g2) (hg3 : gvItoa aM = g3)
    (eT : rdT (.int .i64) told o.2.1 = aT) (eM : rdT (.int .i64) many o.2.1 = aM) (i1 : g1.size ≤ 7) (i2 : g2.size ≤ 7) (i3 : g3.size ≤ 7)
    (hh : Ev (fun k => impl_runOps_h15 k (mputT .str .str m o.2.2 (catS (catS (catS (catS g1 (ByteArray.mk (Array.mk (List.cons 58 [])))) g2) (ByteArray.mk (Array.mk (List.cons 46 [])))) g3)) told many reads o l (l.length : Int) (n : Int)) r) : Ev (fun k => impl_runOps_h5 k m told many reads l (l.length : Int) (n : Int)) r := by
  obtain ⟨z1, z2, z3, z4, _⟩ := sizesW i1 i2 i3
  refine ev_shift ?_
  simp only [impl_runOps_h5_eq, ev_ite_iff, ev_none_iff, rdT_get (e := OpK) hx, itoa_if t0 tx, Option.bind_some, eT, eM, itoa_if a0 a1, itoa_if b0 b1, hg1, hg2, hg3]
  rw [if_pos q1, if_pos q0, if_pos q1, if_neg h1, if_pos h2, if_pos z1, if_pos t0, if_pos t9, if_pos z2, if_pos z3, if_pos t0, if_pos t9, if_pos z4]
  exact hh
theorem s3 {r} (hx : l[n]? = some o) (q0 : (0 : Int) ≤ (n : Int)) (q1 : (n : Int) < (l.length : Int)) (h1 : ¬ o.1 = 1) (h2 : ¬ o.1 = 2) (v1 : Ev (fun k => spec_l3Value k c o.2.2) w)
    (hh : Ev (fun k => spec_RunOps_h17 k c told many reads o l (l.length : Int) (n : Int)) r) : Ev (fun k => spec_RunOps_h8 k c told many reads l (l.length : Int) (n : Int)) r := by
  refine ev_shift ?_
  simp only [spec_RunOps_h8_eq, ev_ite_iff, ev_none_iff, rdT_get (e := OpK) hx, ev_bind_iff v1]
  rw [if_pos q1, if_pos q0, if_pos q1, if_neg h1, if_neg h2]
  exact hh
theorem p3 {r} (hx : l[n]? = some o) (q0 : (0 : Int) ≤ (n : Int)) (q1 : (n : Int) < (l.length : Int)) (h1 : ¬ o.1 = 1) (h2 : ¬ o.1 = 2) (t0 : 0 ≤ o.2.1) (tx : o.2.1 ≤ 1048576)
    (hh : Ev (fun k => impl_runOps_h15 k m told many reads o l (l.length : Int) (n : Int)) r) : Ev (fun k => impl_runOps_h5 k m told many reads l (l.length : Int) (n : Int)) r := by
  refine ev_shift ?_
  simp only [impl_runOps_h5_eq, ev_ite_iff, ev_none_iff, rdT_get (e := OpK) hx, itoa_if t0 tx, Option.bind_some]
  rw [if_pos q1, if_pos q0, if_pos q1, if_neg h1, if_neg h2]
  exact hh
end
/-- both run alike -/
theorem run_ev (l : List OpT) (hl : l.length ≤ 60) (hok : ∀ o ∈ l, opOk o = true) : ∀ (rest : List OpT) (n : Nat) (c m : List CellT) (told many : List Int) (reads : List (List ByteArray)), l.drop n = rest → l.length = n + rest.length → Run n c m told many reads →
    ∃ (out : List ByteArray) (cs : List CellT), Ev (fun k => spec_RunOps_h8 k c told many reads l (l.length : Int) (n : Int)) (out, (cs, true)) ∧ Ev (fun k => impl_runOps_h5 k m told many reads l (l.length : Int) (n : Int)) (out, cs) ∧ out.length ≤ 1048576 ∧ cs.length ≤ 1048576
  | [], n, c, m, told, many, reads, hd, hlen, h => by
    simp at hlen
    have hx : ∀ x ∈ reads, x.length ≤ 60 := fun x hx => by
      obtain ⟨i, hi⟩ := List.getElem?_of_mem hx
      have := h.rs i
      rw [show atR reads (i : Int) = x from rd_get hi] at this
      omega
    refine ⟨[] ++ reads.flatten, c, ?_, ?_, ?_, by have := h.cl; omega⟩
    · refine ev_shift ?_
      simp only [spec_RunOps_h8_eq, ev_ite_iff]
      rw [if_neg (by omega)]
      exact specOut_ev c reads h.rl hx reads 0 [] rfl (by simp) (by simp)
    · refine ev_shift ?_
      simp only [impl_runOps_h5_eq, ev_ite_iff]
      rw [if_neg (by omega), if_pos h.rl]
      exact implOut_ev c m reads h.rl hx (cellsOf_ev c m h.tm (fun x hx => by
        obtain ⟨y, hy, rfl⟩ := List.mem_map.1 hx
        have := (h.cs y hy).1; omega) (by have := h.cl; omega)) reads 0 [] rfl (by simp) (by simp)
    · rw [List.nil_append]
      have key : ∀ z : List (List ByteArray), (∀ x ∈ z, x.length ≤ 60) → z.flatten.length ≤ 60 * z.length := fun z => by
        induction z with
        | nil => simp
        | cons x z ih =>
          intro hz
          have h1 := hz x (by simp)
          have h2 := ih fun y hy => hz y (by simp [hy])
          simp only [List.flatten_cons, List.length_append, List.length_cons]
          omega
      have := key reads hx
      have := h.rl
      omega
  | o :: rest, n, c, m, told, many, reads, hd, hlen, h => by
    simp only [List.length_cons] at hlen
    have hx : l[n]? = some o := by
      have := congrArg (fun z : List OpT => z[0]?) hd
      simpa only [List.getElem?_drop, Nat.add_zero, List.getElem?_cons_zero] using this
    obtain ⟨k1, k2, k3⟩ := key8 (hok o (List.mem_of_getElem? hx))
    have q0 : (0 : Int) ≤ (n : Int) := by omega
    have q1 : (n : Int) < (l.length : Int) := by omega
    have t0 : (0 : Int) ≤ o.2.1 := by omega
    have t9 : o.2.1 < ((9 : Nat) : Int) := by omega
    have tx : o.2.1 ≤ 1048576 := by omega
    have hnx : l.length = n + 1 + rest.length := by omega
    have hcl : c.length ≤ 1048576 := by have := h.cl; omega
    have wN : wrap64 ((n : Int) + 1) = ((n + 1 : Nat) : Int) := wrap_nat (by omega)
    have tt : o.2.1 < ((told.length : Nat) : Int) := by rw [h.tl]; exact t9
    have tm : o.2.1 < ((many.length : Nat) : Int) := by rw [h.ml]; exact t9
    have tr : o.2.1 < ((reads.length : Nat) : Int) := by rw [h.rl]; exact t9
    obtain ⟨aT, eT, hT0, hT1⟩ : ∃ a, atI told o.2.1 = a ∧ 0 ≤ a ∧ a ≤ 2400 := ⟨_, rfl, (h.at_told k2).1, by have := (h.at_told k2).2; omega⟩
    obtain ⟨aM, eM, hM0, hM1⟩ : ∃ a, atI many o.2.1 = a ∧ 0 ≤ a ∧ a ≤ 60 := ⟨_, rfl, (h.at_many k2).1, by have := (h.at_many k2).2; omega⟩
    obtain ⟨aR, eR, hR⟩ : ∃ a, atR reads o.2.1 = a ∧ a.length ≤ 60 := ⟨_, rfl, by have := h.at_reads k2; omega⟩
    obtain ⟨w, v1, vm, hv⟩ : ∃ w, Ev (fun k => spec_l3Value k c o.2.2) w ∧ mgetT .str .str m o.2.2 = w ∧ w.size ≤ 40 := ⟨_, l3Value_ev c o.2.2 hcl, h.vm o.2.2, valC_size h.cs o.2.2⟩
    have wM : wrap64 (aM + 1) = aM + 1 := wrap_of (by omega) (by omega)
    have wT : wrap64 (aT + ((w.size : Nat) : Int)) = aT + ((w.size : Nat) : Int) := wrap_of (by omega) (by omega)
    have aT1 : aT ≤ 1048576 := by omega
    have aM1 : aM ≤ 1048576 := by omega
    have hv' : (0 : Int) ≤ ((w.size : Nat) : Int) ∧ ((w.size : Nat) : Int) ≤ 40 := by omega
    have hr : aR.length + 1 ≤ 8796093022208 := by omega
    obtain ⟨g1, hg1, i1, n1⟩ : ∃ g, gvItoa o.2.1 = g ∧ g.size ≤ 7 ∧ Ev (fun k => spec_l1Num k o.2.1) g := ⟨_, rfl, itoa_few t0 tx, l1NumI_ev t0 (Int.le_trans tx (by decide))⟩
    obtain ⟨g2, hg2, i2, n2⟩ : ∃ g, gvItoa aT = g ∧ g.size ≤ 7 ∧ Ev (fun k => spec_l1Num k aT) g := ⟨_, rfl, itoa_few hT0 aT1, l1NumI_ev hT0 (Int.le_trans aT1 (by decide))⟩
    obtain ⟨g3, hg3, i3, n3⟩ : ∃ g, gvItoa aM = g ∧ g.size ≤ 7 ∧ Ev (fun k => spec_l1Num k aM) g := ⟨_, rfl, itoa_few hM0 aM1, l1NumI_ev hM0 (Int.le_trans aM1 (by decide))⟩
    by_cases h1 : o.1 = 1
    · have R := h.read k2 (catS (catS (catS (catS (ByteArray.mk (Array.mk (List.cons 114 []))) g1) o.2.2) (ByteArray.mk (Array.mk (List.cons 61 [])))) w) hv'
      rw [eT, eM, eR] at R
      obtain ⟨out, cs, e1, e2, e3⟩ := run_ev l hl hok rest (n + 1) c m _ _ _ (drop_next hd) hnx R
      exact ⟨out, cs, s1 hx q0 q1 h1 t0 tr tt v1 n1 eT eR wT hr i1 k3 hv (s17 eM wM wN t0 tm e1), p1 hx q0 q1 h1 t0 t9 h.rl vm tx hg1 eT eR wT hr i1 k3 hv (p15 eM wM wN t0 t9 e2), e3⟩
    · by_cases h2 : o.1 = 2
      · have R := h.write k2 (v := (catS (catS (catS (catS g1 (ByteArray.mk (Array.mk (List.cons 58 [])))) g2) (ByteArray.mk (Array.mk (List.cons 46 [])))) g3)) k3 (sizesW i1 i2 i3).2.2.2.2
        rw [eM] at R
        have c4 := l3Cells_ev c (o.2.2, (catS (catS (catS (catS g1 (ByteArray.mk (Array.mk (List.cons 58 [])))) g2) (ByteArray.mk (Array.mk (List.cons 46 [])))) g3)) (Nat.le_trans hcl (by decide))
        obtain ⟨out, cs, e1, e2, e3⟩ := run_ev l hl hok rest (n + 1) _ _ told _ reads (drop_next hd) hnx R
        exact ⟨out, cs, s2 hx q0 q1 h1 h2 t0 tt tm v1 n1 n2 n3 eT eM i1 i2 i3 c4 (s17 eM wM wN t0 tm e1), p2 hx q0 q1 h1 h2 t0 t9 tx hT0 aT1 hM0 aM1 hg1 hg2 hg3 eT eM i1 i2 i3 (p15 eM wM wN t0 t9 e2), e3⟩
      · have R := h.count k2
        rw [eM] at R
        obtain ⟨out, cs, e1, e2, e3⟩ := run_ev l hl hok rest (n + 1) c m told _ reads (drop_next hd) hnx R
        exact ⟨out, cs, s3 hx q0 q1 h1 h2 v1 (s17 eM wM wN t0 tm e1), p3 hx q0 q1 h1 h2 t0 tx (p15 eM wM wN t0 t9 e2), e3⟩
theorem opsFrom_ok : ∀ {l : List OpT}, opsFrom l = true → ∀ o ∈ l, opOk o = true
  | [], _, o, ho => by cases ho
  | x :: l, h, o, ho => by
    simp only [opsFrom, Bool.and_eq_true] at h
    rcases List.mem_cons.1 ho with rfl | ho
    · exact h.1
    · exact opsFrom_ok h.2.2 o ho
theorem zI (i : Nat) : atI (List.replicate 9 (0 : Int)) (i : Int) = 0 := by
  unfold atI rdT
  simp only [Int.toNat_natCast, List.getD_eq_getElem?_getD, List.getElem?_replicate]
  split <;> rfl
theorem zR (i : Nat) : atR (List.replicate 9 ([] : List ByteArray)) (i : Int) = [] := by
  unfold atR rdT
  simp only [Int.toNat_natCast, List.getD_eq_getElem?_getD, List.getElem?_replicate]
  split <;> rfl
theorem Run.start : Run 0 [] [] (List.replicate 9 (0 : Int)) (List.replicate 9 (0 : Int)) (List.replicate 9 ([] : List ByteArray)) where
  cl := Nat.le_refl _
  cs := fun x hx => by cases hx
  tl := by simp
  ts := fun i => by rw [zI]; omega
  ml := by simp
  ms := fun i => by rw [zI]; omega
  rl := by simp
  rs := fun i => by rw [zR]; simp
  tm := toldC.nil
  vm := fun key => rfl
theorem runs_ev (l : List OpT) (hl : l.length ≤ 1048576) (hk : sizesO l) : ∃ r : List ByteArray × (List CellT × Bool), Ev (fun k => spec_RunOps k l) r ∧ Ev (fun k => impl_RunOps k l) r ∧ r.1.length ≤ 1048576 ∧ r.2.1.length ≤ 1048576 := by
  have b1 := specOps_ev l hl hk
  have b2 := implOps_ev l hl hk
  cases hb : opsB l with
  | false =>
    rw [hb] at b1 b2
    exact ⟨([], ([], false)), ev_congr (fun k => spec_RunOps_eq k l) (ev_bind b1 (ev_if_pos (by simp) (ev_some _))), ev_congr (fun k => impl_RunOps_eq k l) (ev_bind b2 (ev_if_pos (by simp) (ev_some _))), by simp, by simp⟩
  | true =>
    rw [hb] at b1 b2
    simp only [opsB, Bool.and_eq_true, decide_eq_true_eq] at hb
    obtain ⟨out, cs, e1, e2, e3, e4⟩ := run_ev l hb.1 (opsFrom_ok hb.2) l 0 [] [] _ _ _ rfl (by simp) Run.start
    exact ⟨(out, (cs, true)), ev_congr (fun k => spec_RunOps_eq k l) (ev_bind b1 (ev_if_neg (by simp) e1)), ev_congr (fun k => impl_RunOps_eq k l) (ev_bind b2 (ev_if_neg (by simp) (ev_bind (ev_congr (fun k => impl_runOps_eq k l) e2) (ev_some _)))), e3, e4⟩
theorem eqCell_ev (x : CellT) : Ev (fun k => laws_eqCell k x x) true := ev_congr (fun k => laws_eqCell_eq k x x) (by simp [ev_some_iff])
theorem eqCellS_ev (l) (hl : l.length ≤ 140737488355328) : Ev (fun k => laws_eqCellS k l l) true := by
  refine ev_congr (fun k => laws_eqCellS_eq k l l) ?_
  simp only [ev_ite_iff]
  rw [if_neg (by simp)]
  exact eq_row (l := l) (fun k a b i => laws_eqCellS_h4_eq k a b i) (fun x _ => eqCell_ev x) (by omega)
theorem law (a0 : List OpT) (h0 : okT (.slice OpK) a0) : ∃ k, laws_FnExactRunOps k a0 = some true := by
  apply ev_fuel
  refine ev_congr (fun k => laws_FnExactRunOps_eq k a0) ?_
  have hs : ∀ x ∈ a0, szokOp x := fun x hx => (h0.2 x hx).2.2
  obtain ⟨v, hv, _, hB⟩ := szOpS_ev a0 (by have := h0.1; omega) hs 1048576 (by omega) (by omega)
  refine ev_bind hv ?_
  by_cases hneg : v < 0
  · exact ev_if_pos hneg (ev_some _)
  refine ev_if_neg hneg ?_
  obtain ⟨hl, _⟩ := hB (by omega)
  obtain ⟨r, spec, impl, hr1, hr2⟩ := runs_ev a0 hl hs
  have to := toOpS_ev a0 hl
  have es := eqStringS_ev r.1 (by omega)
  have ec := eqCellS_ev r.2.1 (by omega)
  have ms := markStringS_ev r.1 1 (by omega) (by omega)
  have mc := markCellS_ev r.2.1 (1 + 1 * (r.1.length : Int)) (by omega) (by omega)
  have hs1 := heldStringS_ev 1 r.1.length (by omega) (by omega)
  have hc := heldCellS_ev (1 + 1 * (r.1.length : Int)) r.2.1.length (by omega) (by omega)
  have m0 := markOpS_ev a0 1 (by omega) (by omega)
  refine ev_bind to (ev_bind spec (ev_bind to (ev_bind impl (ev_bind es (ev_if_neg (by simp) (ev_bind ec (ev_if_neg (by simp) (ev_if_neg (by simp) ?_))))))))
  refine ev_bind to (ev_bind (eqOpS_ev a0 (by omega)) (ev_if_neg (by simp) ?_))
  refine ev_bind m0 (ev_if_neg (by simp only; omega) (ev_bind es (ev_if_neg (by simp) (ev_bind ec (ev_if_neg (by simp) (ev_if_neg (by simp) ?_))))))
  refine ev_bind ms (ev_bind mc (ev_bind hs1 (ev_if_neg (by omega) (ev_bind hc (ev_if_neg (by omega) (ev_if_neg (by simp) ?_))))))
  refine ev_bind to (ev_bind impl (ev_bind es (ev_if_neg (by simp) (ev_bind ec (ev_if_neg (by simp) (ev_if_neg (by simp) ?_))))))
  exact ev_bind hs1 (ev_if_neg (by omega) (ev_bind hc (ev_if_neg (by omega) (ev_if_neg (by simp) (ev_some _)))))

end Go.Proofs.YtmbcblabfgepfaaDoor.Fms
