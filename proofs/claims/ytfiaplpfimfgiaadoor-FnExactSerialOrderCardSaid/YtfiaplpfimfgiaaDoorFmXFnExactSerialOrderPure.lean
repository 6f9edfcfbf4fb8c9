/- What the law's functions give: the pure part. -/
import Derived.Test.YtfiaplpfimfgiaaDoorFmAid
import Derived.Test.YtfiaplpfimfgiaaDoorFmOpn
import Derived.Test.YtfiaplpfimfgiaaDoorFmXFnExactSerialOrderEq
set_option autoImplicit true
set_option maxRecDepth 100000
set_option linter.unusedVariables false
set_option linter.unusedSimpArgs false
set_option linter.unnecessarySimpa false
set_option linter.unusedSectionVars false
open Go Go.Fm Go.RowKit
namespace Go.Proofs.YtfiaplpfimfgiaaDoor.Fms
/-! ### base -/
theorem l1In_ev (n lo hi : Int) : Ev (fun k => spec_l1In k n lo hi) (decide (lo ≤ n ∧ n ≤ hi)) := ev_congr (fun k => by rw [spec_l1In_eq]) (by by_cases h : lo ≤ n <;> simp [ev_some_iff, h])

/-! ### inn -/
theorem in_ev (n lo hi : Int) : Ev (fun k => impl_in k n lo hi) (decide (lo ≤ n ∧ n ≤ hi)) := ev_congr (fun k => by rw [impl_in_eq]) (by by_cases h : lo ≤ n <;> simp [ev_some_iff, h])

/-! ### keys -/
def keyByte (b : UInt8) : Bool := (decide (97 ≤ b.toNat) && decide (b.toNat ≤ 122)) || (decide (48 ≤ b.toNat) && decide (b.toNat ≤ 57))
def keyB (s : ByteArray) : Bool := decide (1 ≤ s.size ∧ s.size ≤ 8) && s.data.toList.all keyByte
def keyCut : List UInt8 := [97, 98, 99, 100, 101, 102, 103, 104, 105, 106, 107, 108, 109, 110, 111, 112, 113, 114, 115, 116, 117, 118, 119, 120, 121, 122, 48, 49, 50, 51, 52, 53, 54, 55, 56, 57]
theorem keyCut_has (b : UInt8) : keyCut.contains b = keyByte b := by
  have h : ∀ n : Fin 256, keyCut.contains (UInt8.ofNat n.val) = keyByte (UInt8.ofNat n.val) := by decide +kernel
  have := h ⟨b.toNat, b.toNat_lt⟩
  simpa using this
theorem drop_nil {α : Type} (p : α → Bool) (l : List α) : (l.dropWhile p).isEmpty = l.all p := by
  induction l with
  | nil => rfl
  | cons x l ih => cases h : p x <;> simp [List.dropWhile_cons, h, ih]
theorem all_drop {α : Type} (p : α → Bool) (l : List α) : (l.dropWhile p).all p = l.all p := by
  induction l with
  | nil => rfl
  | cons x l ih => cases h : p x <;> simp [List.dropWhile_cons, h, ih]
theorem trim_nil (l : List UInt8) : (Go.Lib.trimS l keyCut).isEmpty = l.all keyByte := by
  unfold Go.Lib.trimS Go.Lib.trimLeftS Go.Lib.trimRightS
  rw [drop_nil, List.all_reverse, all_drop, List.all_reverse]
  congr 1
  funext b
  exact keyCut_has b
theorem mk_nil (l : List UInt8) : decide ((⟨l.toArray⟩ : ByteArray) = ByteArray.mk (Array.mk [])) = l.isEmpty := by
  cases l with
  | nil => exact decide_eq_true rfl
  | cons x l => exact decide_eq_false (fun h => by have := congrArg (fun b : ByteArray => b.data.size) h; simp at this)
theorem isKey_ev (s : ByteArray) : Ev (fun k => impl_isKey k s) (keyB s) := by
  refine ev_congr (fun k => impl_isKey_eq k s) ?_
  have e : MapW.strings_Trim.f s ⟨#[97, 98, 99, 100, 101, 102, 103, 104, 105, 106, 107, 108, 109, 110, 111, 112, 113, 114, 115, 116, 117, 118, 119, 120, 121, 122, 48, 49, 50, 51, 52, 53, 54, 55, 56, 57]⟩ = if s.size ≤ 9223372036854775807 then some ⟨(Go.Lib.trimS s.data.toList keyCut).toArray⟩ else none := by
    unfold MapW.strings_Trim.f
    by_cases h : s.size ≤ 9223372036854775807
    · rw [if_pos ⟨h, by decide, by decide⟩, if_pos h]; rfl
    · rw [if_neg (fun hh => h hh.1), if_neg h]
  simp only [e]
  unfold keyB
  by_cases h1 : (1 : Int) ≤ (s.size : Int)
  · by_cases h2 : (s.size : Int) ≤ 8
    · have h3 : 1 ≤ s.size ∧ s.size ≤ 8 := by omega
      rw [if_pos h1, if_pos h2, if_pos (by omega)]
      simp only [Option.bind_some, mk_nil, trim_nil, h3, decide_true, and_self, Bool.true_and]
      exact ev_some _
    · have h3 : ¬ (1 ≤ s.size ∧ s.size ≤ 8) := by omega
      rw [if_pos h1, if_neg h2]
      simp only [h3, decide_false, Bool.false_and]
      exact ev_some _
  · have h3 : ¬ (1 ≤ s.size ∧ s.size ≤ 8) := by omega
    rw [if_neg h1]
    simp only [h3, decide_false, Bool.false_and]
    exact ev_some _
theorem l1Key_ev (s : ByteArray) (hs : s.size ≤ 140737488355328) : Ev (fun k => spec_l1Key k s) (keyB s) := by
  have hl := size_len s
  have key := drop_ind0 s.data.toList (fun n rest => Ev (fun k => spec_l1Key_h2 k s (n : Int)) (rest.all keyByte && decide (1 ≤ s.size ∧ s.size ≤ 8))) ?_ ?_
  · refine ev_congr (fun k => spec_l1Key_eq k s) ?_
    unfold keyB
    rw [Bool.and_comm]
    exact key
  · refine ev_shift ?_
    simp only [spec_l1Key_h2_eq, ev_ite_iff, ev_bind_iff (l1In_ev _ _ _), ev_some_iff]
    rw [← hl, if_neg (by omega)]
    simp only [List.all_nil, Bool.true_and]
    congr 1
    exact propext ⟨fun h => by omega, fun h => by omega⟩
  · intro n b rest hn hx hd ih
    refine ev_shift ?_
    simp only [spec_l1Key_h2_eq, bt_nat hx, wrap_nat (show n < 9223372036854775807 by omega), ev_ite_iff, ev_some_iff, ev_none_iff, List.all_cons]
    rw [if_pos (by omega), if_pos (by omega), if_pos (by omega)]
    cases hp : keyByte b with
    | true =>
      simp only [Bool.true_and]
      simp only [keyByte, Bool.or_eq_true, Bool.and_eq_true, decide_eq_true_eq] at hp
      split
      · split
        · exact ih
        · rw [if_pos (by omega), if_neg (by omega)]; exact ih
      · rw [if_pos (by omega), if_neg (by omega)]; exact ih
    | false =>
      simp only [keyByte, Bool.or_eq_false_iff, Bool.and_eq_false_iff, decide_eq_false_iff_not] at hp
      simp only [Bool.false_and]
      split
      · rw [if_neg (by omega)]
        split
        · rw [if_pos (by omega)]; trivial
        · trivial
      · split
        · rw [if_pos (by omega)]; trivial
        · trivial

/-! ### op -/
abbrev OpT := Int × Int × ByteArray
abbrev OpK : Kind := .struct (.pair (.int .i64) (.pair (.int .i64) .str))
def szokOp (x : OpT) : Prop := x.2.2.size ≤ 140737488351232
def szBOp (x : OpT) : Prop := x.2.2.size ≤ 1048576
theorem szOp_ev (x : OpT) (hx : szokOp x) (a : Int) (h0 : 0 ≤ a) (h1 : a ≤ 1048576) : ∃ v, Ev (fun k => laws_szOp k x a) v ∧ v ≤ a ∧ (0 ≤ v → szBOp x) := by
  unfold szokOp at hx
  have w : wrap64 (a - (x.2.2.size : Int)) = a - x.2.2.size := wrap_of (by omega) (by omega)
  by_cases h : a - (x.2.2.size : Int) < 0
  · exact ⟨-1, ev_congr (fun k => by rw [laws_szOp_eq, w, if_pos h]) (ev_some _), by omega, fun h => by omega⟩
  · exact ⟨_, ev_congr (fun k => by rw [laws_szOp_eq, w, if_neg h]) (ev_some _), by omega, fun _ => by unfold szBOp; omega⟩
theorem toOp_ev (x : OpT) : Ev (fun k => laws_toOp k x) x := ev_congr (fun k => laws_toOp_eq k x) (ev_some x)
theorem eqOp_ev (x : OpT) : Ev (fun k => laws_eqOp k x x) true := ev_congr (fun k => laws_eqOp_eq k x x) (by simp [ev_some_iff])
theorem szOpS_ev (l) (hl : l.length ≤ 140737488355328) (hk : ∀ x ∈ l, szokOp x) (a : Int) (h0 : 0 ≤ a) (h1 : a ≤ 1048576) : ∃ v, Ev (fun k => laws_szOpS k l a) v ∧ v ≤ a ∧ (0 ≤ v → l.length ≤ 1048576 ∧ ∀ x ∈ l, szBOp x) :=
  sz_top (fun k l a => laws_szOpS_eq k l a) (sz_row (fun k l a i => laws_szOpS_h5_eq k l a i) (fun x hx a h0 h1 => szOp_ev x (hk x hx) a h0 h1) (by omega)) hl a h0 h1
theorem toOpS_ev (l) (hl : l.length ≤ 1048576) : Ev (fun k => laws_toOpS k l) l := by
  refine ev_congr (fun k => laws_toOpS_eq k l) ?_
  simp only [ev_ite_iff]
  rw [if_pos trivial, if_pos (by omega)]
  simpa using to_row (l := l) (cv := id) (z := _) (fun k l r i => laws_toOpS_h3_eq k l r i) (fun x _ => toOp_ev x) (by omega)
theorem eqOpS_ev (l) (hl : l.length ≤ 140737488355328) : Ev (fun k => laws_eqOpS k l l) true := by
  refine ev_congr (fun k => laws_eqOpS_eq k l l) ?_
  simp only [ev_ite_iff]
  rw [if_neg (by simp)]
  exact eq_row (l := l) (fun k a b i => laws_eqOpS_h4_eq k a b i) (fun x _ => eqOp_ev x) (by omega)

/-! ### ops -/
def opOk (o : OpT) : Bool := decide (1 ≤ o.1 ∧ o.1 ≤ 3) && (decide (1 ≤ o.2.1 ∧ o.2.1 ≤ 8) && (if o.1 = 3 then decide (o.2.2 = ByteArray.mk (Array.mk [])) else keyB o.2.2))
def sameT (o x : OpT) : Bool := decide (x.2.1 = o.2.1)
def doneT (o x : OpT) : Bool := decide (x.2.1 = o.2.1) && decide (x.1 = 3)
def condT (o : OpT) (later done : Bool) : Bool := if o.1 = 3 then !later else done
def opsFrom : List OpT → Bool
  | [] => true
  | o :: r => opOk o && (condT o (r.any (sameT o)) (r.any (doneT o)) && opsFrom r)
def opsB (l : List OpT) : Bool := decide (l.length ≤ 60) && opsFrom l
theorem keyB_empty {s : ByteArray} (h : s = ByteArray.mk (Array.mk [])) : keyB s = false := by
  subst h
  rfl
def runI (ov se : List Bool) : List OpT → Bool
  | [] => se == ov
  | o :: r => opOk o && (!(ov.getD o.2.1.toNat false) && runI (ov.set o.2.1.toNat (o.1 == 3)) (se.set o.2.1.toNat true) r)
theorem opOk_txn {o : OpT} (h : opOk o = true) : 1 ≤ o.2.1 ∧ o.2.1 ≤ 8 := by
  simp only [opOk, Bool.and_eq_true, decide_eq_true_eq] at h
  exact h.2.1
theorem getD_set (l : List Bool) (n m : Nat) (b : Bool) (hn : n < l.length) : (l.set n b).getD m false = if m = n then b else l.getD m false := by
  by_cases h : m = n
  · subst h; simp [hn]
  · rw [if_neg h]
    simp only [List.getD_eq_getElem?_getD]
    rw [List.getElem?_set_ne (by omega)]
theorem runI_iff : ∀ (r : List OpT) (ov se : List Bool), ov.length = 9 → se.length = 9 → (∀ n, ov.getD n false = true → se.getD n false = true) →
    (runI ov se r = true ↔ opsFrom r = true ∧ ∀ n, n < 9 → ((ov.getD n false = true → ∀ o ∈ r, o.2.1.toNat ≠ n) ∧ (se.getD n false = true → ov.getD n false = false → ∃ o ∈ r, o.2.1.toNat = n ∧ o.1 = 3)))
  | [], ov, se, ho, hs, hle => by
    simp only [runI, opsFrom, beq_iff_eq, true_and]
    constructor
    · rintro rfl n _
      exact ⟨fun _ o h => (by cases h), fun h1 h2 => (by rw [h1] at h2; cases h2)⟩
    · intro h
      apply List.ext_getElem?
      intro n
      by_cases hn : n < 9
      · obtain ⟨_, h2⟩ := h n hn
        have hl := hle n
        simp only [List.getD_eq_getElem?_getD] at h2 hl
        rw [List.getElem?_eq_getElem (by omega), List.getElem?_eq_getElem (by omega)] at *
        simp only [Option.getD_some] at h2 hl
        congr 1
        cases e1 : ov[n] with
        | true => exact hl e1
        | false =>
          cases e2 : se[n] with
          | false => rfl
          | true => obtain ⟨o, h, _⟩ := h2 e2 e1; cases h
      · rw [List.getElem?_eq_none (by omega), List.getElem?_eq_none (by omega)]
  | o :: r, ov, se, ho, hs, hle => by
    simp only [runI, opsFrom, Bool.and_eq_true, Bool.not_eq_true']
    by_cases hok : opOk o = true
    · have ht := opOk_txn hok
      have hT : o.2.1.toNat < 9 := by omega
      have ih := runI_iff r (ov.set o.2.1.toNat (o.1 == 3)) (se.set o.2.1.toNat true) (by simpa using ho) (by simpa using hs) (fun n => by
        rw [getD_set ov _ _ _ (by omega), getD_set se _ _ _ (by omega)]
        split
        · intro _; rfl
        · exact hle n)
      rw [ih]
      have eqv : ∀ x : OpT, x.2.1 = o.2.1 ↔ x.2.1.toNat = o.2.1.toNat := fun x => ⟨fun e => by rw [e], fun e => by omega⟩
      have hcond : condT o (r.any (sameT o)) (r.any (doneT o)) = true ↔ ((o.1 = 3 → ∀ x ∈ r, x.2.1.toNat ≠ o.2.1.toNat) ∧ (¬ o.1 = 3 → ∃ x ∈ r, x.2.1.toNat = o.2.1.toNat ∧ x.1 = 3)) := by
        unfold condT
        by_cases h3 : o.1 = 3
        · simp only [if_pos h3, Bool.not_eq_true', List.any_eq_false, sameT, decide_eq_true_eq, eqv]
          constructor
          · intro h; exact ⟨fun _ => h, fun n => absurd h3 n⟩
          · intro h; exact h.1 h3
        · simp only [if_neg h3, List.any_eq_true, doneT, Bool.and_eq_true, decide_eq_true_eq, eqv]
          constructor
          · intro h; exact ⟨fun n => absurd n h3, fun _ => h⟩
          · intro h; exact h.2 h3
      rw [hcond]
      constructor
      · rintro ⟨_, hov, hf, hall⟩
        obtain ⟨t1, t2⟩ := hall o.2.1.toNat hT
        rw [getD_set ov _ _ _ (by omega), getD_set se _ _ _ (by omega), if_pos rfl, if_pos rfl] at t2
        rw [getD_set ov _ _ _ (by omega), if_pos rfl] at t1
        refine ⟨⟨hok, ⟨fun h3 => t1 (by simp [h3]), fun h3 => t2 rfl (by simp [h3])⟩, hf⟩, fun n hn => ?_⟩
        by_cases hne : n = o.2.1.toNat
        · subst hne
          refine ⟨fun h => (by rw [hov] at h; cases h), fun _ _ => ?_⟩
          by_cases h3 : o.1 = 3
          · exact ⟨o, List.mem_cons_self, rfl, h3⟩
          · obtain ⟨x, hx, hx2⟩ := t2 rfl (by simp [h3])
            exact ⟨x, List.mem_cons_of_mem _ hx, hx2⟩
        · obtain ⟨s1, s2⟩ := hall n hn
          rw [getD_set ov _ _ _ (by omega), if_neg hne] at s1 s2
          rw [getD_set se _ _ _ (by omega), if_neg hne] at s2
          refine ⟨fun h x hx => ?_, fun h1 h2 => ?_⟩
          · rcases List.mem_cons.1 hx with rfl | hx
            · exact fun e => hne e.symm
            · exact s1 h x hx
          · obtain ⟨x, hx, hx2⟩ := s2 h1 h2
            exact ⟨x, List.mem_cons_of_mem _ hx, hx2⟩
      · rintro ⟨⟨_, ⟨c1, c2⟩, hf⟩, hall⟩
        obtain ⟨t1, t2⟩ := hall o.2.1.toNat hT
        have hov : ov.getD o.2.1.toNat false = false := by
          cases h : ov.getD o.2.1.toNat false with
          | false => rfl
          | true => exact absurd rfl (t1 h o List.mem_cons_self)
        refine ⟨hok, hov, hf, fun n hn => ?_⟩
        rw [getD_set ov _ _ _ (by omega), getD_set se _ _ _ (by omega)]
        by_cases hne : n = o.2.1.toNat
        · subst hne
          simp only [if_true]
          refine ⟨fun h => c1 (by simpa using h), fun _ h => c2 (by simpa using h)⟩
        · simp only [if_neg hne]
          obtain ⟨s1, s2⟩ := hall n hn
          refine ⟨fun h x hx => s1 h x (List.mem_cons_of_mem _ hx), fun h1 h2 => ?_⟩
          obtain ⟨x, hx, hx2⟩ := s2 h1 h2
          rcases List.mem_cons.1 hx with rfl | hx
          · exact absurd hx2.1.symm hne
          · exact ⟨x, hx, hx2⟩
    · simp [hok]
theorem runI_start (l : List OpT) : runI (List.replicate 9 false) (List.replicate 9 false) l = opsFrom l := by
  have z : ∀ n, (List.replicate 9 false).getD n false = false := by
    intro n
    simp only [List.getD_eq_getElem?_getD, List.getElem?_replicate]
    split <;> rfl
  rw [Bool.eq_iff_iff, runI_iff l _ _ (by simp) (by simp) (fun n h => h)]
  simp only [z]
  simp

def sizesO (l : List OpT) : Prop := ∀ y ∈ l, y.2.2.size ≤ 140737488351232
theorem specOps_ev (l : List OpT) (hl : l.length ≤ 1048576) (hk : sizesO l) : Ev (fun k => spec_GoodOps k l) (opsB l) := by
  have key := drop_ind0 l (fun n rest => Ev (fun k => spec_GoodOps_h4 k l l (l.length : Int) (n : Int)) (opsFrom rest)) ?_ ?_
  · refine ev_congr (fun k => spec_GoodOps_eq k l) ?_
    unfold opsB
    simp only [ev_ite_iff, ev_some_iff]
    by_cases h60 : l.length ≤ 60
    · rw [if_neg (by omega)]
      simpa [h60] using key
    · rw [if_pos (by omega)]
      simp [h60]
  · exact ev_last (fun k => by rw [spec_GoodOps_h4_eq, if_neg (by omega)]; rfl)
  · intro n o rest hn ho hd ih
    have s1 := hk o (List.mem_of_getElem? ho)
    have hrest := drop_next hd
    have hno : opsFrom (o :: rest) = (opOk o && (condT o (rest.any (sameT o)) (rest.any (doneT o)) && opsFrom rest)) := rfl
    have hlr : rest.length ≤ l.length := by rw [← hrest]; simp
    have inner : Ev (fun k => spec_GoodOps_h11 k l o false false l (l.length : Int) (n : Int) rest (rest.length : Int) 0) (condT o (rest.any (sameT o)) (rest.any (doneT o)) && opsFrom rest) := by
      have key2 := drop_ind0 rest (fun j rs => ∀ a b : Bool, Ev (fun k => spec_GoodOps_h11 k l o a b l (l.length : Int) (n : Int) rest (rest.length : Int) (j : Int)) (condT o (a || rs.any (sameT o)) (b || rs.any (doneT o)) && opsFrom rest)) ?_ ?_
      · simpa using key2 false false
      · intro a b
        refine ev_shift ?_
        simp only [spec_GoodOps_h11_eq, wrap_nat (show n < 9223372036854775807 by omega), ev_ite_iff, ev_some_iff]
        rw [if_neg (by omega)]
        simp only [List.any_nil, Bool.or_false, condT]
        by_cases h3 : o.1 = 3
        · cases a <;> simpa [h3] using ih
        · cases b <;> simpa [h3] using ih
      · intro j x rs hj hx _ ih2 a b
        have H := ih2 (a || decide (x.2.1 = o.2.1)) (b || (decide (x.2.1 = o.2.1) && decide (x.1 = 3)))
        have e1 : (a || decide (x.2.1 = o.2.1) || rs.any (sameT o)) = (a || (x :: rs).any (sameT o)) := by simp [sameT, Bool.or_assoc]
        have e2 : (b || (decide (x.2.1 = o.2.1) && decide (x.1 = 3)) || rs.any (doneT o)) = (b || (x :: rs).any (doneT o)) := by simp [doneT, Bool.or_assoc]
        rw [e1, e2] at H
        refine ev_shift ?_
        simp only [spec_GoodOps_h11_eq, rdT_get (e := OpK) hx, wrap_nat (show j < 9223372036854775807 by omega), ev_ite_iff, ev_none_iff]
        rw [if_pos (by omega), if_pos (by omega), if_pos (by omega)]
        by_cases h1 : x.2.1 = o.2.1 <;> cases a <;> cases b <;> simpa [h1] using H
    refine ev_shift ?_
    simp only [spec_GoodOps_h4_eq, rdT_get (e := OpK) ho, wrap_nat (show n < 9223372036854775807 by omega), Int.toNat_natCast, List.take_length, hrest, ev_ite_iff, ev_bind_iff (l1In_ev _ _ _), ev_bind_iff (l1Key_ev o.2.2 (by omega)), ev_some_iff, ev_none_iff]
    rw [if_pos (by omega), if_pos (by omega), if_pos (by omega), hno, if_pos (show (0 : Int) ≤ ((n + 1 : Nat) : Int) by omega), if_pos (show ((n + 1 : Nat) : Int) ≤ (l.length : Int) by omega)]
    unfold opOk
    by_cases b0 : 1 ≤ o.1 ∧ o.1 ≤ 3
    · by_cases b1 : 1 ≤ o.2.1 ∧ o.2.1 ≤ 8
      · by_cases b2 : o.2.2 = ByteArray.mk (Array.mk [])
        · by_cases b3 : o.1 = 3
          · simpa [b0, b1, b2, b3] using inner
          · simp [b0, b1, b3, b2, show keyB (ByteArray.mk (Array.mk [])) = false from rfl]
        · by_cases b3 : o.1 = 3
          · simp [b0, b1, b2, b3]
          · cases b4 : keyB o.2.2 with
            | true => simpa [b0, b1, b2, b3, b4] using inner
            | false => simp [b0, b1, b2, b3, b4]
      · simp [b0, b1]
    · simp [b0]
theorem eqL_bool : ∀ {a b : List Bool}, eqL (fun x y => decide (x = y)) a b = (a == b)
  | [], [] => rfl
  | [], _ :: _ => rfl
  | _ :: _, [] => rfl
  | x :: a, y :: b => by simp only [eqL, eqL_bool (a := a) (b := b)]; cases x <;> cases y <;> simp
theorem implOps_ev (l : List OpT) (hl : l.length ≤ 1048576) (hk : sizesO l) : Ev (fun k => impl_areOps k l) (opsB l) := by
  have key := drop_ind0 l (fun n rest => ∀ ov se : List Bool, ov.length = 9 → se.length = 9 → Ev (fun k => impl_areOps_h4 k l ov se l (l.length : Int) (n : Int)) (decide (l.length ≤ 60) && runI ov se rest)) ?_ ?_
  · refine ev_congr (fun k => impl_areOps_eq k l) ?_
    have := key (List.replicate 9 false) (List.replicate 9 false) (by simp) (by simp)
    rw [runI_start] at this
    exact this
  · intro ov se ho hs
    refine ev_shift ?_
    simp only [impl_areOps_h4_eq, ev_ite_iff, ev_some_iff]
    rw [if_neg (by omega), eqL_bool]
    by_cases h60 : l.length ≤ 60
    · rw [if_pos (by omega)]; simp [h60, runI]
    · rw [if_neg (by omega)]; simp [h60]
  · intro n o rest hn ho _ ih ov se hov hse
    have s1 := hk o (List.mem_of_getElem? ho)
    have hno : runI ov se (o :: rest) = (opOk o && (!(ov.getD o.2.1.toNat false) && runI (ov.set o.2.1.toNat (o.1 == 3)) (se.set o.2.1.toNat true) rest)) := rfl
    have H := ih (ov.set o.2.1.toNat (o.1 == 3)) (se.set o.2.1.toNat true) (by simpa using hov) (by simpa using hse)
    have e3 : decide (o.1 = 3) = (o.1 == 3) := by by_cases h : o.1 = 3 <;> simp [h]
    refine ev_shift ?_
    simp only [impl_areOps_h4_eq, rdT_get (e := OpK) ho, wrap_nat (show n < 9223372036854775807 by omega), ev_ite_iff, ev_bind_iff (in_ev _ _ _), ev_bind_iff (isKey_ev _), ev_some_iff, ev_none_iff, e3]
    obtain ⟨q, hq⟩ : ∃ q, ov.getD o.2.1.toNat false = q := ⟨_, rfl⟩
    rw [if_pos (by omega), if_pos (by omega), if_pos (by omega), hno, hq]
    unfold opOk
    by_cases b0 : 1 ≤ o.1 ∧ o.1 ≤ 3
    · by_cases b1 : 1 ≤ o.2.1 ∧ o.2.1 ≤ 8
      · have c1 : (0 : Int) ≤ o.2.1 := by omega
        have c2 : o.2.1 < 9 := by omega
        have e4 : rdT .bool ov o.2.1 = q := hq
        by_cases b3 : o.1 = 3
        · by_cases b2 : o.2.2 = ByteArray.mk (Array.mk [])
          · cases q <;> simp [b0, b1, b3, b2, c1, c2, e4] at H ⊢ <;> exact H
          · cases q <;> simp [b0, b1, b3, b2, c1, c2, e4]
        · cases b4 : keyB o.2.2 <;> cases q <;> simp [b0, b1, b3, b4, c1, c2, e4] at H ⊢ <;> exact H
      · simp [b0, b1]
    · simp [b0]

/-! ### txns0 -/
def t8 : List Int := (List.range 8).map fun (i : Nat) => (i : Int) + 1
def txB (l : List OpT) (t : Int) : Bool := l.any fun o => decide (o.2.1 = t)
def txnsB (l : List OpT) : List Int := t8.filter (txB l)
theorem t8_get {n : Nat} {x : Int} (h : t8[n]? = some x) : x = (n : Int) + 1 ∧ n < 8 := by
  simp only [t8, List.getElem?_map, List.getElem?_range] at h
  by_cases hn : n < 8
  · simp [hn] at h; exact ⟨h.symm, hn⟩
  · simp [List.getElem?_eq_none (show (List.range 8).length ≤ n by simp; omega)] at h
theorem l3Txns_ev (l : List OpT) (hl : l.length ≤ 1048576) : Ev (fun k => spec_l3Txns k l) (txnsB l) := by
  have key := drop_ind0 t8 (fun n rest => ∀ out : List Int, out.length ≤ n → Ev (fun k => spec_l3Txns_h3 k l out ((n : Int) + 1)) (out ++ rest.filter (txB l))) ?_ ?_
  · exact ev_congr (fun k => spec_l3Txns_eq k l) (key [] (by simp))
  · intro out _
    have : t8.length = 8 := rfl
    exact ev_last fun k => by rw [spec_l3Txns_h3_eq, if_neg (by omega)]; simp
  · intro n x rest hn hx hd ih out ho
    obtain ⟨rfl, hn8⟩ := t8_get hx
    have hin := drop_ind0 l (fun j rs => Ev (fun k => spec_l3Txns_h6 k l out ((n : Int) + 1) l (l.length : Int) (j : Int)) (cond (txB rs ((n : Int) + 1)) (out ++ [(n : Int) + 1] ++ rest.filter (txB l)) (out ++ rest.filter (txB l)))) ?_ ?_
    · refine ev_shift ?_
      simp only [spec_l3Txns_h3_eq, ev_ite_iff]
      rw [if_pos (by omega)]
      have e : out ++ List.filter (txB l) (((n : Int) + 1) :: rest) = cond (txB l ((n : Int) + 1)) (out ++ [(n : Int) + 1] ++ rest.filter (txB l)) (out ++ rest.filter (txB l)) := by
        rw [List.filter_cons]
        cases txB l ((n : Int) + 1) <;> simp
      rw [e]
      exact hin
    · refine ev_shift ?_
      simp only [spec_l3Txns_h6_eq, ev_ite_iff]
      rw [if_neg (by omega), wrap_of (by omega) (by omega)]
      have := ih out (by omega)
      rw [show (((n + 1 : Nat) : Int) + 1) = (n : Int) + 1 + 1 by omega] at this
      exact this
    · intro j o rs hj hx hd ih2
      refine ev_shift ?_
      simp only [spec_l3Txns_h6_eq, rdT_get (e := OpK) hx, wrap_nat (show j < 9223372036854775807 by omega), ev_ite_iff, ev_none_iff]
      rw [if_pos (by omega), if_pos (by omega), if_pos (by omega)]
      unfold txB
      rw [List.any_cons]
      by_cases h : o.2.1 = (n : Int) + 1
      · rw [if_pos h, if_pos (by simp; omega), wrap_of (by omega) (by omega), decide_eq_true h]
        have := ih (out ++ [(n : Int) + 1]) (by simp; omega)
        rw [show (((n + 1 : Nat) : Int) + 1) = (n : Int) + 1 + 1 by omega] at this
        exact this
      · rw [if_neg h, decide_eq_false h]
        exact ih2
theorem opsFrom_ok' : ∀ {l : List OpT}, opsFrom l = true → ∀ o ∈ l, opOk o = true
  | [], _, o, ho => by cases ho
  | x :: l, h, o, ho => by
    simp only [opsFrom, Bool.and_eq_true] at h
    rcases List.mem_cons.1 ho with rfl | ho
    · exact h.1
    · exact opsFrom_ok' h.2.2 o ho
theorem t8_mem {t : Int} : t ∈ t8 ↔ 1 ≤ t ∧ t ≤ 8 := by
  simp only [t8, List.mem_map, List.mem_range]
  constructor
  · rintro ⟨i, h, rfl⟩; omega
  · rintro ⟨h1, h2⟩; exact ⟨(t - 1).toNat, by omega, by omega⟩
theorem t8_lt : t8.Pairwise (· < ·) := by decide
theorem txns_mem {l : List OpT} {t : Int} : t ∈ txnsB l ↔ (1 ≤ t ∧ t ≤ 8) ∧ ∃ o ∈ l, o.2.1 = t := by simp [txnsB, List.mem_filter, t8_mem, txB]
theorem txns_lt (l : List OpT) : (txnsB l).Pairwise (· < ·) := t8_lt.filter _
theorem txns_nodup (l : List OpT) : (txnsB l).Nodup := (txns_lt l).imp fun h => by omega

/-! ### pair0 -/
abbrev PairT := Int × Int
abbrev PairK : Kind := .struct (.pair (.int .i64) (.int .i64))

/-! ### sortpair -/
/-! pairs sorted, and doubles struck out -/
theorem isNaN_eq (k : Nat) (a : Int) : cmp_isNaN k a = some false := by rw [cmp_isNaN_eq]; simp
def cmpI (a b : Int) : Int := if a < b then -1 else if b < a then 1 else 0
theorem compare_eq (k : Nat) (a b : Int) : cmp_Compare k a b = some (cmpI a b) := by
  rw [cmp_Compare_eq, isNaN_eq, isNaN_eq]
  simp only [Option.bind_some, Bool.false_eq_true, if_false]
  unfold cmpI
  by_cases h1 : a < b
  · rw [if_pos h1, if_pos h1]
  · rw [if_neg h1, if_neg h1]
    by_cases h2 : b < a
    · rw [if_pos h2, if_pos h2]
    · rw [if_neg h2, if_neg h2]
theorem or_eq (k : Nat) (a b : Int) : cmp_Or (k + 3) [a, b] = some (if a ≠ 0 then a else b) := by
  have r0 : rdT (.int .i64) [a, b] 0 = a := rfl
  have r1 : rdT (.int .i64) [a, b] 1 = b := rfl
  have l2 : (([a, b] : List Int).length : Int) = 2 := rfl
  have w0 : wrap64 (0 + 1) = 1 := by rw [wrap_of (by omega) (by omega)]; rfl
  have w1 : wrap64 (1 + 1) = 2 := by rw [wrap_of (by omega) (by omega)]; rfl
  rw [cmp_Or_eq, cmp_Or_h3_eq, l2, r0, w0]
  rw [if_pos (by decide), if_pos (by decide), if_pos (by decide)]
  by_cases ha : a = 0
  · rw [if_neg (by simpa using ha), if_neg (by simpa using ha), cmp_Or_h3_eq, l2, r1, w1]
    rw [if_pos (by decide), if_pos (by decide), if_pos (by decide)]
    by_cases hb : b = 0
    · rw [if_neg (by simpa using hb), cmp_Or_h3_eq, if_neg (by decide), hb]
    · rw [if_pos hb]
  · rw [if_pos ha, if_pos ha]
theorem sortPairs1_eq (k : Nat) (x y : PairT) : impl_sortPairs_1 (k + 3) x y = some (cfPair x y) := by
  rw [impl_sortPairs_1_eq, compare_eq, compare_eq]
  simp only [Option.bind_some]
  rw [or_eq]
  simp only [Option.bind_some, Option.some.injEq]
  unfold cmpI cfPair
  by_cases h1 : x.1 < y.1
  · simp [h1]
  · by_cases h2 : y.1 < x.1
    · simp [h1, h2]
    · simp [h1, h2]
theorem sortF_ev {F : Nat → ArgsT [.val PairK, .val PairK] → Option Int} (hF : ∀ k x y, F (k + 3) (x, y, ()) = some (cfPair x y)) (l : List PairT) (hl : l.length ≤ 1073741824) : Ev (fun k => gvSortF (F k) cfPair l) (List.mergeSort l (fun x y => !(Go.Proofs.ltOf cfPair y x)), ()) := by
  refine ⟨3, fun k hk => ?_⟩
  obtain ⟨k, rfl⟩ : ∃ j, k = j + 3 := ⟨k - 3, by omega⟩
  show gvSortF (F (k + 3)) cfPair l = _
  unfold gvSortF
  rw [if_pos ⟨hF k, by omega⟩]
/-- doubles that stand side by side are struck out -/
def cpFrom (p : PairT) : List PairT → List PairT
  | [] => []
  | y :: r => if y = p then cpFrom p r else y :: cpFrom y r
def cpB : List PairT → List PairT
  | [] => []
  | x :: r => x :: cpFrom x r
theorem samePair (x y : PairT) : Bool.and (decide (x.1 = y.1)) (decide (x.2 = y.2)) = decide (x = y) := by
  rw [Bool.eq_iff_iff]
  show (decide (x.1 = y.1) && decide (x.2 = y.2)) = true ↔ _
  simp only [Bool.and_eq_true, decide_eq_true_eq]
  exact ⟨fun h => Prod.ext h.1 h.2, fun h => by rw [h]; exact ⟨rfl, rfl⟩⟩
theorem cp_arith (n j a L : Nat) (h : n + j < L) (hj : 1 ≤ j) (ha : a + 1 ≤ n + j) (hL : L ≤ 1073741824) :
    (n : Int) + (j : Int) = ((n + j : Nat) : Int) ∧ wrap64 ((j : Int) - 1) = ((j - 1 : Nat) : Int) ∧ (n : Int) + ((j - 1 : Nat) : Int) = ((n + j - 1 : Nat) : Int) ∧ wrap64 ((j : Int) + 1) = ((j + 1 : Nat) : Int) ∧ wrap64 ((a : Int) + 1) = ((a + 1 : Nat) : Int) ∧
    (j : Int) < (L : Int) - (n : Int) ∧ (0 : Int) ≤ (j : Int) ∧ (0 : Int) ≤ ((j - 1 : Nat) : Int) ∧ ((j - 1 : Nat) : Int) < (L : Int) - (n : Int) ∧ (0 : Int) ≤ (a : Int) ∧ (a : Int) < (L : Int) := by
  refine ⟨by omega, ?_, by omega, ?_, ?_, by omega, by omega, by omega, by omega, by omega, by omega⟩
  · rw [wrap_of (by omega) (by omega)]; omega
  · rw [wrap_of (by omega) (by omega)]; omega
  · rw [wrap_of (by omega) (by omega)]; omega
theorem cp_lists {s l : List PairT} {m : Nat} {y : PairT} (hm : 1 ≤ m) (hs : s.length = l.length) (hd : s.drop (m - 1) = l.drop (m - 1)) (hy : l[m]? = some y) :
    s[m - 1]? = l[m - 1]? ∧ s[m]? = some y ∧ l.drop m = y :: l.drop (m + 1) ∧ s.drop m = l.drop m := by
  refine ⟨?_, ?_, ?_, ?_⟩
  · have := congrArg (fun z : List PairT => z[0]?) hd
    simpa only [List.getElem?_drop, Nat.add_zero] using this
  · have := congrArg (fun z : List PairT => z[1]?) hd
    simp only [List.getElem?_drop] at this
    rw [show m - 1 + 1 = m by omega] at this
    rw [this, hy]
  · have hml : m < l.length := (List.getElem?_eq_some_iff.1 hy).1
    rw [List.drop_eq_getElem_cons hml]
    congr 1
    rw [List.getElem?_eq_getElem hml] at hy
    exact Option.some.inj hy
  · have := congrArg (List.drop 1) hd
    simp only [List.drop_drop] at this
    rwa [show m - 1 + 1 = m by omega] at this
theorem cp_set {s : List PairT} {a m : Nat} {y : PairT} (ha : a < m) (hm : m ≤ s.length) : (s.set a y).drop m = s.drop m ∧ (s.set a y)[a]? = some y ∧ (s.set a y).take (a + 1) = s.take a ++ [y] := by
  have h2 : (s.set a y)[a]? = some y := List.getElem?_set_self (by omega)
  refine ⟨List.drop_set_of_lt ha, h2, ?_⟩
  rw [take_snoc h2, List.take_set_of_le (Nat.le_refl _)]
theorem cp_second {l : List PairT} (hl : l.length ≤ 1073741824) (n : Nat) (hn : 1 ≤ n) : ∀ (d j : Nat) (s : List PairT) (a : Nat), n + j + d = l.length → 1 ≤ j → a + 1 ≤ n + j → s.length = l.length → s.drop (n + j - 1) = l.drop (n + j - 1) → ∀ p, l[n + j - 1]? = some p → cpB l = s.take a ++ cpFrom p (l.drop (n + j)) →
      Ev (fun k => slices_Compact_h9 k s (a : Int) ((n : Int), (l.length : Int)) (j : Int)) (cpB l) := by
  intro d
  induction d with
  | zero =>
    intro j s a hm hj ha hs hd p hp hc
    refine ev_last fun k => ?_
    have hdm : l.drop (n + j) = [] := List.drop_eq_nil_of_le (by omega)
    rw [hdm, cpFrom, List.append_nil] at hc
    have e1 : (s.take (Int.toNat (a : Int)) ++ (List.replicate (Int.toNat ((s.length : Int) - (a : Int))) ((0 : Int), (0 : Int)) ++ s.drop (Int.toNat (s.length : Int)))).length = s.length := by
      simp only [Int.toNat_natCast, List.length_append, List.length_take, List.length_replicate, List.length_drop]
      omega
    have e2 : (s.take (Int.toNat (a : Int)) ++ (List.replicate (Int.toNat ((s.length : Int) - (a : Int))) ((0 : Int), (0 : Int)) ++ s.drop (Int.toNat (s.length : Int)))).take (Int.toNat (a : Int)) = s.take a := by
      rw [Int.toNat_natCast, List.take_append_of_le_length (by rw [List.length_take]; omega), List.take_take]
      congr 1; omega
    rw [slices_Compact_h9_eq, if_neg (by omega), if_pos (by omega), if_pos (by omega), if_pos (by omega)]
    rw [if_pos (by omega), e2, hc]
  | succ d ih =>
    intro j s a hm hj ha hs hd p hp hc
    have hml : n + j < l.length := by omega
    obtain ⟨y, hy⟩ : ∃ y, l[n + j]? = some y := ⟨l[n + j], List.getElem?_eq_getElem hml⟩
    obtain ⟨sp, sy, hdr, hds⟩ := cp_lists (by omega) hs hd hy
    rw [hp] at sp
    rw [hdr, cpFrom] at hc
    have e1 : n + j = n + (j + 1) - 1 := by omega
    have hy' : l[n + (j + 1) - 1]? = some y := by rw [← e1]; exact hy
    have ihA := ih (j + 1) s a (by omega) (by omega) (by omega) hs (by rw [← e1]; exact hds) y hy'
    obtain ⟨g1, g2, g3⟩ := cp_set (s := s) (y := y) (a := a) (m := n + j) (by omega) (by omega)
    have ihB := ih (j + 1) (s.set a y) (a + 1) (by omega) (by omega) (by omega) (by rw [List.length_set]; exact hs) (by rw [← e1, g1]; exact hds) y hy'
    obtain ⟨i0, w1, i1, w2, w3, c0, c1, c2, c3, c4, c5⟩ := cp_arith n j a l.length hml hj (by omega) hl
    have c5' : (a : Int) < (s.length : Int) := by rw [hs]; exact c5
    clear hm hj hs hds hd g1 g2 hy hy' ih hml
    refine ev_shift ?_
    simp only [slices_Compact_h9_eq, i0, w1, i1, w2, w3, rdT_get (e := PairK) sp, rdT_get (e := PairK) sy, samePair, ev_ite_iff, ev_none_iff, Int.toNat_natCast]
    rw [if_pos c0, if_pos c1, if_pos c0, if_pos c2, if_pos c3]
    by_cases hyp : y = p
    · rw [if_pos hyp] at hc
      rw [if_neg (by simp [hyp])]
      exact ihA (by rw [hyp]; exact hc)
    · rw [if_neg hyp] at hc
      rw [if_pos (by simp [hyp]), if_pos c1, if_pos c0, if_pos c4, if_pos c5']
      exact ihB (by rw [hc, g3, List.append_assoc]; rfl)
theorem cp_arith1 (n L : Nat) (h : n < L) (h1 : 1 ≤ n) (hL : L ≤ 1073741824) : wrap64 ((n : Int) - 1) = ((n - 1 : Nat) : Int) ∧ wrap64 ((n : Int) + 1) = ((n + 1 : Nat) : Int) ∧ (n : Int) < (L : Int) ∧ (0 : Int) ≤ (n : Int) ∧ (0 : Int) ≤ ((n - 1 : Nat) : Int) ∧ ((n - 1 : Nat) : Int) < (L : Int) ∧ (n : Int) ≤ (L : Int) := by
  refine ⟨?_, ?_, by omega, by omega, by omega, by omega, by omega⟩
  · rw [wrap_of (by omega) (by omega)]; omega
  · rw [wrap_of (by omega) (by omega)]; omega
theorem cp_first {l : List PairT} (hl : l.length ≤ 1073741824) : ∀ (d n : Nat), n + d = l.length → 1 ≤ n → ∀ p, l[n - 1]? = some p → cpB l = l.take n ++ cpFrom p (l.drop n) → Ev (fun k => slices_Compact_h4 k l (n : Int)) (cpB l) := by
  intro d
  induction d with
  | zero =>
    intro n hn h1 p hp hc
    refine ev_last fun k => ?_
    rw [slices_Compact_h4_eq, if_neg (by omega), hc, List.drop_eq_nil_of_le (by omega), List.take_of_length_le (by omega)]
    simp [cpFrom]
  | succ d ih =>
    intro n hn h1 p hp hc
    have hml : n < l.length := by omega
    obtain ⟨y, hy⟩ : ∃ y, l[n]? = some y := ⟨l[n], List.getElem?_eq_getElem hml⟩
    obtain ⟨_, _, hdr, _⟩ := cp_lists h1 rfl rfl hy
    have ihA := ih (n + 1) (by omega) (by omega) y (by simpa using hy)
    have sec := cp_second hl n h1 d 1 l n (by omega) (Nat.le_refl _) (Nat.le_refl _) rfl rfl y (by simpa using hy)
    have ts := take_snoc hy
    obtain ⟨w1, w2, c0, c1, c2, c3, c4⟩ := cp_arith1 n l.length hml h1 hl
    clear hn h1 ih hml
    rw [hdr, cpFrom] at hc
    refine ev_shift ?_
    simp only [slices_Compact_h4_eq, w1, w2, rdT_get (e := PairK) hp, rdT_get (e := PairK) hy, samePair, ev_ite_iff, ev_none_iff]
    rw [if_pos c0, if_pos c1, if_pos c0, if_pos c2, if_pos c3]
    by_cases hyp : y = p
    · rw [if_pos (by simp [hyp]), if_pos c1, if_pos c4]
      rw [if_pos hyp] at hc
      exact sec (by rw [hyp]; exact hc)
    · rw [if_neg (by simp [hyp])]
      rw [if_neg hyp] at hc
      exact ihA (by rw [hc, ts]; simp)
theorem compact_ev (l : List PairT) (hl : l.length ≤ 1073741824) : Ev (fun k => slices_Compact k l) (cpB l) := by
  refine ev_congr (fun k => slices_Compact_eq k l) ?_
  by_cases h2 : l.length < 2
  · refine ev_if_pos (by omega) ?_
    have : cpB l = l := by
      match l, h2 with
      | [], _ => rfl
      | [x], _ => rfl
      | x :: y :: r, h => simp at h; omega
    rw [this]; exact ev_some _
  refine ev_if_neg (by omega) ?_
  match l, h2, hl with
  | x :: r, h2, hl => exact cp_first hl r.length 1 (by simp [Nat.add_comm]) (Nat.le_refl _) x rfl rfl
  | [], h2, _ => exact absurd (by simp) h2
def ltP (x y : PairT) : Prop := x.1 < y.1 ∨ x.1 = y.1 ∧ x.2 < y.2
def leP (x y : PairT) : Prop := x = y ∨ ltP x y
theorem cpFrom_mem : ∀ (r : List PairT) (p z : PairT), z ∈ p :: cpFrom p r ↔ z ∈ p :: r
  | [], p, z => by simp [cpFrom]
  | y :: r, p, z => by
    rw [cpFrom]
    by_cases h : y = p
    · rw [if_pos h, cpFrom_mem r p z, h]; simp
    · rw [if_neg h]
      have := cpFrom_mem r y z
      simp only [List.mem_cons] at *
      rw [this]
theorem cpFrom_lt : ∀ (r : List PairT) (p : PairT), (p :: r).Pairwise leP → (p :: cpFrom p r).Pairwise ltP
  | [], p, _ => by simp [cpFrom]
  | y :: r, p, h => by
    rw [cpFrom]
    have h1 := List.pairwise_cons.1 h
    by_cases hyp : y = p
    · rw [if_pos hyp]
      exact cpFrom_lt r p (by rw [← hyp]; exact h1.2)
    · rw [if_neg hyp]
      have ih := cpFrom_lt r y h1.2
      refine List.pairwise_cons.2 ⟨fun z hz => ?_, ih⟩
      have hpy : ltP p y := (h1.1 y (by simp)).resolve_left (fun e => hyp e.symm)
      rcases List.mem_cons.1 hz with rfl | hz
      · exact hpy
      · have := (List.pairwise_cons.1 ih).1 z hz
        unfold ltP at *
        omega
theorem sorted_le (l : List PairT) : (List.mergeSort l (fun x y => !(Go.Proofs.ltOf cfPair y x))).Pairwise leP := by
  have h := List.pairwise_mergeSort (le := fun x y : PairT => !(Go.Proofs.ltOf cfPair y x)) (fun a b c h1 h2 => ?_) (fun a b => ?_) l
  · refine h.imp fun {a b} hab => ?_
    simp only [Bool.not_eq_true', ← Bool.not_eq_true, ltPair_iff] at hab
    unfold leP ltP
    by_cases e : a = b
    · exact .inl e
    · right
      have : ¬ (a.1 = b.1 ∧ a.2 = b.2) := fun h => e (Prod.ext h.1 h.2)
      omega
  · simp only [Bool.not_eq_true', ← Bool.not_eq_true, ltPair_iff] at *
    omega
  · simp only [Bool.or_eq_true, Bool.not_eq_true', ← Bool.not_eq_true, ltPair_iff]
    omega
theorem lt_unique : ∀ {a b : List PairT}, a.Pairwise ltP → b.Pairwise ltP → (∀ z, z ∈ a ↔ z ∈ b) → a = b
  | [], [], _, _, _ => rfl
  | [], y :: b, _, _, h => by have := (h y).2 (by simp); cases this
  | x :: a, [], _, _, h => by have := (h x).1 (by simp); cases this
  | x :: a, y :: b, h1, h2, h => by
    obtain ⟨p1, q1⟩ := List.pairwise_cons.1 h1
    obtain ⟨p2, q2⟩ := List.pairwise_cons.1 h2
    have irr : ∀ z : PairT, ¬ ltP z z := fun z hz => by unfold ltP at hz; omega
    have asym : ∀ z w : PairT, ltP z w → ¬ ltP w z := fun z w h h' => by unfold ltP at *; omega
    have hxy : x = y := by
      rcases List.mem_cons.1 ((h x).1 (by simp)) with e | hx
      · exact e
      · rcases List.mem_cons.1 ((h y).2 (by simp)) with e | hy
        · exact e.symm
        · exact absurd (p1 y hy) (asym _ _ (p2 x hx))
    subst hxy
    congr 1
    refine lt_unique q1 q2 fun z => ?_
    constructor
    · intro hz
      rcases List.mem_cons.1 ((h z).1 (List.mem_cons_of_mem _ hz)) with e | h'
      · subst e; exact absurd (p1 _ hz) (irr _)
      · exact h'
    · intro hz
      rcases List.mem_cons.1 ((h z).2 (List.mem_cons_of_mem _ hz)) with e | h'
      · subst e; exact absurd (p2 _ hz) (irr _)
      · exact h'
theorem cpB_mem (l : List PairT) (z : PairT) : z ∈ cpB l ↔ z ∈ l := by
  cases l with
  | nil => rfl
  | cons x r => exact cpFrom_mem r x z
theorem cpB_lt {l : List PairT} (h : l.Pairwise leP) : (cpB l).Pairwise ltP := by
  cases l with
  | nil => exact List.Pairwise.nil
  | cons x r => exact cpFrom_lt r x h
/-- what sortPairs gives: the one row of its pairs that rises -/
theorem sortPairs_ev (l B : List PairT) (hl : l.length ≤ 1073741824) (hB : B.Pairwise ltP) (hm : ∀ z, z ∈ l ↔ z ∈ B) : Ev (fun k => impl_sortPairs k l) B := by
  have hs := sorted_le l
  have hlen : (List.mergeSort l (fun x y => !(Go.Proofs.ltOf cfPair y x))).length = l.length := List.length_mergeSort _
  have hmem : ∀ z, z ∈ List.mergeSort l (fun x y => !(Go.Proofs.ltOf cfPair y x)) ↔ z ∈ l := fun z => List.mem_mergeSort
  have e : cpB (List.mergeSort l (fun x y => !(Go.Proofs.ltOf cfPair y x))) = B := lt_unique (cpB_lt hs) hB fun z => by rw [cpB_mem, hmem, hm]
  refine ev_congr (fun k => impl_sortPairs_eq k l) (ev_bind (sortF_ev (fun k x y => sortPairs1_eq k x y) l hl) (ev_bind ?_ (ev_some _)))
  have := compact_ev (List.mergeSort l (fun x y => !(Go.Proofs.ltOf cfPair y x))) (by omega)
  rw [e] at this
  exact this

/-! ### conflicts0 -/
/-! the pairs that clash: plain -/
def clash (x y : OpT) : Bool := decide (x.2.1 ≠ y.2.1) && (decide (x.2.2 = y.2.2) && (decide (x.2.2 ≠ ByteArray.mk (Array.mk [])) && (decide (x.1 = 2) || decide (y.1 = 2))))
def hitB (a b : Int) (x y : OpT) : Bool := decide (x.2.1 = a) && (decide (y.2.1 = b) && clash x y)
def foundB (a b : Int) : List OpT → Bool
  | [] => false
  | x :: r => r.any (hitB a b x) || foundB a b r
def specC (l : List OpT) : List PairT := (txnsB l).flatMap fun a => ((txnsB l).filter fun b => foundB a b l).map fun b => (a, b)
def outFrom : List OpT → List OpT → List PairT
  | _, [] => []
  | p, b :: r => ((p.filter fun a => clash a b).map fun a => (a.2.1, b.2.1)) ++ outFrom (p ++ [b]) r
theorem foundB_iff {a b : Int} : ∀ {l : List OpT}, foundB a b l = true → (∃ x ∈ l, x.2.1 = a) ∧ ∃ y ∈ l, y.2.1 = b
  | [], h => by cases h
  | x :: r, h => by
    simp only [foundB, Bool.or_eq_true, List.any_eq_true, hitB, Bool.and_eq_true, decide_eq_true_eq] at h
    rcases h with ⟨y, hy, h1, h2, _⟩ | h
    · exact ⟨⟨x, by simp, h1⟩, y, by simp [hy], h2⟩
    · obtain ⟨⟨x', h1, h2⟩, y', h3, h4⟩ := foundB_iff h
      exact ⟨⟨x', by simp [h1], h2⟩, y', by simp [h3], h4⟩
theorem outFrom_mem {s t : Int} : ∀ {r p : List OpT}, (s, t) ∈ outFrom p r ↔ (∃ a ∈ p, ∃ b ∈ r, hitB s t a b = true) ∨ foundB s t r = true
  | [], p => by simp [outFrom, foundB]
  | b :: r, p => by
    simp only [outFrom, List.mem_append, List.mem_map, List.mem_filter, Prod.mk.injEq, outFrom_mem (r := r) (p := p ++ [b]), foundB, Bool.or_eq_true, List.any_eq_true, List.mem_cons, List.mem_singleton]
    constructor
    · rintro (⟨a, ⟨ha, hc⟩, h1, h2⟩ | ⟨a, ha, b', hb', h⟩ | h)
      · exact .inl ⟨a, ha, b, .inl rfl, by simp [hitB, h1, h2, hc]⟩
      · rcases ha with ha | ha | ha
        · exact .inl ⟨a, ha, b', .inr hb', h⟩
        · subst ha; exact .inr (.inl ⟨b', hb', h⟩)
        · cases ha
      · exact .inr (.inr h)
    · rintro (⟨a, ha, b', hb', h⟩ | ⟨b', hb', h⟩ | h)
      · rcases hb' with rfl | hb'
        · simp only [hitB, Bool.and_eq_true, decide_eq_true_eq] at h
          exact .inl ⟨a, ⟨ha, h.2.2⟩, h.1, h.2.1⟩
        · exact .inr (.inl ⟨a, .inl ha, b', hb', h⟩)
      · exact .inr (.inl ⟨b, .inr (.inl rfl), b', hb', h⟩)
      · exact .inr (.inr h)
theorem outFrom_len : ∀ (r p : List OpT), (outFrom p r).length ≤ r.length * (p.length + r.length)
  | [], p => by simp [outFrom]
  | b :: r, p => by
    have h1 := List.length_filter_le (fun a : OpT => clash a b) p
    have h2 := outFrom_len r (p ++ [b])
    simp only [outFrom, List.length_append, List.length_map, List.length_cons, List.length_nil] at h2 ⊢
    rw [show p.length + (r.length + 1) = p.length + (0 + 1) + r.length by omega, Nat.add_mul, Nat.one_mul]
    omega
theorem specC_mem {l : List OpT} (hb : opsB l = true) {z : PairT} : z ∈ specC l ↔ foundB z.1 z.2 l = true := by
  obtain ⟨s, t⟩ := z
  have hok : ∀ o ∈ l, 1 ≤ o.2.1 ∧ o.2.1 ≤ 8 := by
    simp only [opsB, Bool.and_eq_true] at hb
    exact fun o ho => opOk_txn (opsFrom_ok' hb.2 o ho)
  simp only [specC, List.mem_flatMap, List.mem_map, List.mem_filter, Prod.mk.injEq]
  constructor
  · rintro ⟨a, _, b, ⟨_, h⟩, rfl, rfl⟩; exact h
  · intro h
    obtain ⟨⟨x, hx, rfl⟩, y, hy, rfl⟩ := foundB_iff h
    exact ⟨_, txns_mem.2 ⟨hok x hx, x, hx, rfl⟩, _, ⟨txns_mem.2 ⟨hok y hy, y, hy, rfl⟩, h⟩, rfl, rfl⟩
theorem specC_lt (l : List OpT) : (specC l).Pairwise ltP := by
  unfold specC
  rw [List.pairwise_flatMap]
  refine ⟨fun a _ => ?_, (txns_lt l).imp fun {a b} hab x hx y hy => ?_⟩
  · rw [List.pairwise_map]
    exact ((txns_lt l).filter _).imp fun h => .inr ⟨rfl, h⟩
  · obtain ⟨x', _, rfl⟩ := List.mem_map.1 hx
    obtain ⟨y', _, rfl⟩ := List.mem_map.1 hy
    exact .inl hab
theorem out_mem {l : List OpT} (hb : opsB l = true) (z : PairT) : z ∈ outFrom [] l ↔ z ∈ specC l := by
  rw [specC_mem hb, outFrom_mem]
  simp
theorem txnsB_len8 (l : List OpT) : (txnsB l).length ≤ 8 := by
  have := List.length_filter_le (txB l) t8
  have h8 : t8.length = 8 := rfl
  unfold txnsB; omega
theorem pairsOf_len (T : List Int) (f : Int → Int → Bool) : ∀ A : List Int, (A.flatMap fun a => (T.filter (f a)).map fun b => (a, b)).length ≤ A.length * T.length
  | [] => by simp
  | a :: A => by
    have h1 := List.length_filter_le (f a) T
    have h2 := pairsOf_len T f A
    simp only [List.flatMap_cons, List.length_append, List.length_map, List.length_cons, Nat.add_mul, Nat.one_mul]
    omega
theorem specC_len (l : List OpT) : (specC l).length ≤ 64 := by
  have h := pairsOf_len (txnsB l) (fun a b => foundB a b l) (txnsB l)
  have h8 := txnsB_len8 l
  have : (txnsB l).length * (txnsB l).length ≤ 8 * 8 := Nat.mul_le_mul h8 h8
  unfold specC; omega

/-! ### conflicts -/
/-! the pairs that clash: both sides -/
theorem clash_ev (x y : OpT) : Ev (fun k => spec_l3Clash k x y) (clash x y) := by
  refine ev_congr (fun k => spec_l3Clash_eq k x y) ?_
  simp only [ev_ite_iff, ev_some_iff]
  unfold clash
  by_cases h1 : x.2.1 = y.2.1
  · simp [h1]
  · by_cases h2 : x.2.2 = y.2.2
    · by_cases h3 : y.2.2 = ByteArray.mk (Array.mk [])
      · simp [h1, h2, h3]
      · by_cases h4 : x.1 = 2 <;> simp [h1, h2, h3, h4]
    · simp [h1, h2]
section
variable (l : List OpT) (a b : Int) (out : List PairT) (T T2 : List Int) (tl ti tl2 ti2 : Int) (res : List PairT)
theorem inner_ev (x : OpT) (i : Nat) (hi : i < l.length) (hl : l.length ≤ 60) (fb : Bool) (H : Ev (fun k => spec_l3Conflicts_h10 k l out a b (fb || (l.drop (i + 1)).any (hitB a b x)) T tl ti T2 tl2 ti2 l (l.length : Int) ((i + 1 : Nat) : Int)) res) :
    Ev (fun k => spec_l3Conflicts_h13 k l out a b fb x T tl ti T2 tl2 ti2 l (l.length : Int) (i : Int) (l.drop (i + 1)) ((l.drop (i + 1)).length : Int) 0) res := by
  have hR : (l.drop (i + 1)).length ≤ 60 := by rw [List.length_drop]; omega
  generalize hRR : l.drop (i + 1) = R at *
  have key := drop_ind0 R (fun j rs => ∀ fb : Bool, Ev (fun k => spec_l3Conflicts_h10 k l out a b (fb || rs.any (hitB a b x)) T tl ti T2 tl2 ti2 l (l.length : Int) ((i + 1 : Nat) : Int)) res → Ev (fun k => spec_l3Conflicts_h13 k l out a b fb x T tl ti T2 tl2 ti2 l (l.length : Int) (i : Int) R (R.length : Int) (j : Int)) res) ?_ ?_
  · exact key fb H
  · intro fb H
    refine ev_shift ?_
    simp only [spec_l3Conflicts_h13_eq, ev_ite_iff, wrap_nat (show i < 9223372036854775807 by omega)]
    rw [if_neg (by omega)]
    simpa using H
  · intro j y rs hj hx hd ih fb H
    have d1 : (j : Int) < (R.length : Int) := by omega
    have d2 : (0 : Int) ≤ (j : Int) := by omega
    refine ev_shift ?_
    simp only [spec_l3Conflicts_h13_eq, rdT_get (e := OpK) hx, wrap_nat (show j < 9223372036854775807 by omega), ev_ite_iff, ev_none_iff, ev_bind_iff (clash_ev x y)]
    rw [if_pos d1, if_pos d2, if_pos d1]
    rw [List.any_cons] at H
    cases fb with
    | true => rw [if_pos rfl]; exact ih true (by simpa using H)
    | false =>
      rw [if_neg (by simp)]
      rw [Bool.false_or] at H
      by_cases h1 : x.2.1 = a
      · rw [if_pos h1]
        by_cases h2 : y.2.1 = b
        · rw [if_pos h2]
          have e : hitB a b x y = clash x y := by simp [h1, h2, hitB]
          rw [e] at H; exact ih _ H
        · rw [if_neg h2]
          have e : hitB a b x y = false := by simp [h2, hitB]
          rw [e] at H; exact ih false H
      · rw [if_neg h1]
        have e : hitB a b x y = false := by simp [h1, hitB]
        rw [e] at H; exact ih false H
theorem found_ev (hl : l.length ≤ 60) (ho : out.length ≤ 100) (j : Nat) (hj : j ≤ 100) (hT : foundB a b l = true → Ev (fun k => spec_l3Conflicts_h6 k l (out ++ [(a, b)]) a T tl ti T2 tl2 ((j + 1 : Nat) : Int)) res) (hF : foundB a b l = false → Ev (fun k => spec_l3Conflicts_h6 k l out a T tl ti T2 tl2 ((j + 1 : Nat) : Int)) res) :
    Ev (fun k => spec_l3Conflicts_h10 k l out a b false T tl ti T2 tl2 (j : Int) l (l.length : Int) 0) res := by
  have key := drop_ind0 l (fun i rs => ∀ fb : Bool, ((fb || foundB a b rs) = true → Ev (fun k => spec_l3Conflicts_h6 k l (out ++ [(a, b)]) a T tl ti T2 tl2 ((j + 1 : Nat) : Int)) res) → ((fb || foundB a b rs) = false → Ev (fun k => spec_l3Conflicts_h6 k l out a T tl ti T2 tl2 ((j + 1 : Nat) : Int)) res) →
    Ev (fun k => spec_l3Conflicts_h10 k l out a b fb T tl ti T2 tl2 (j : Int) l (l.length : Int) (i : Int)) res) ?_ ?_
  · exact key false (by simpa using hT) (by simpa using hF)
  · intro fb hT hF
    refine ev_shift ?_
    simp only [spec_l3Conflicts_h10_eq, ev_ite_iff, ev_none_iff, wrap_nat (show j < 9223372036854775807 by omega)]
    rw [if_neg (by omega)]
    cases fb with
    | true => rw [if_pos rfl, if_pos (by simp; omega)]; exact hT (by simp)
    | false => rw [if_neg (by simp)]; exact hF (by simp [foundB])
  · intro i x rs hi hx hd ih fb hT hF
    have d1 : (i : Int) < (l.length : Int) := by omega
    have d2 : (0 : Int) ≤ (i : Int) := by omega
    have d3 : (0 : Int) ≤ ((i + 1 : Nat) : Int) := by omega
    have d4 : ((i + 1 : Nat) : Int) ≤ (l.length : Int) := by omega
    have hrs : l.drop (i + 1) = rs := drop_next hd
    refine ev_shift ?_
    simp only [spec_l3Conflicts_h10_eq, ev_ite_iff, ev_none_iff, rdT_get (e := OpK) hx, wrap_nat (show i < 9223372036854775807 by omega), Int.toNat_natCast, List.take_length]
    rw [if_pos d1, if_pos d2, if_pos d1, if_pos d3, if_pos d4]
    refine inner_ev l a b out T T2 tl ti tl2 (j : Int) res x i hi hl fb ?_
    rw [hrs]
    refine ih _ (fun h => hT ?_) (fun h => hF ?_)
    · rw [foundB]; rw [← h, Bool.or_assoc]
    · rw [foundB]; rw [← h, Bool.or_assoc]
end
def pairsOf (l : List OpT) (a : Int) (T : List Int) : List PairT := (T.filter fun b => foundB a b l).map fun b => (a, b)
theorem row_ev (l : List OpT) (a : Int) (n : Nat) (hn : n < (txnsB l).length) (hl : l.length ≤ 60) (out : List PairT) (ho : out.length ≤ n * 8) (res : List PairT)
    (H : Ev (fun k => spec_l3Conflicts_h3 k l (out ++ pairsOf l a (txnsB l)) (txnsB l) ((txnsB l).length : Int) ((n + 1 : Nat) : Int)) res) :
    Ev (fun k => spec_l3Conflicts_h6 k l out a (txnsB l) ((txnsB l).length : Int) (n : Int) (txnsB l) ((txnsB l).length : Int) 0) res := by
  have h8 := txnsB_len8 l
  generalize txnsB l = T at *
  have key := drop_ind0 T (fun j rs => ∀ out : List PairT, out.length ≤ n * 8 + j → Ev (fun k => spec_l3Conflicts_h3 k l (out ++ pairsOf l a rs) T (T.length : Int) ((n + 1 : Nat) : Int)) res → Ev (fun k => spec_l3Conflicts_h6 k l out a T (T.length : Int) (n : Int) T (T.length : Int) (j : Int)) res) ?_ ?_
  · exact key out (by omega) H
  · intro out ho H
    refine ev_shift ?_
    simp only [spec_l3Conflicts_h6_eq, ev_ite_iff, wrap_nat (show n < 9223372036854775807 by omega)]
    rw [if_neg (by omega)]
    simpa [pairsOf] using H
  · intro j b rs hj hx hd ih out ho H
    have d1 : (j : Int) < (T.length : Int) := by omega
    have d2 : (0 : Int) ≤ (j : Int) := by omega
    refine ev_shift ?_
    simp only [spec_l3Conflicts_h6_eq, ev_ite_iff, ev_none_iff, rdT_get (e := .int .i64) hx]
    rw [if_pos d1, if_pos d2, if_pos d1]
    refine found_ev l a b out T T (T.length : Int) (n : Int) (T.length : Int) res hl (by omega) j (by omega) (fun h => ih _ (by simp; omega) ?_) (fun h => ih _ (by omega) ?_)
    · simpa [pairsOf, List.filter_cons, h] using H
    · simpa [pairsOf, List.filter_cons, h] using H
theorem specConf_ev (l : List OpT) (hl : l.length ≤ 60) : Ev (fun k => spec_l3Conflicts k l) (specC l) := by
  refine ev_congr (fun k => spec_l3Conflicts_eq k l) ?_
  rw [ev_bind_iff (l3Txns_ev l (by omega))]
  have h8 := txnsB_len8 l
  have key := drop_ind0 (txnsB l) (fun n rest => ∀ out : List PairT, out.length ≤ n * 8 → Ev (fun k => spec_l3Conflicts_h3 k l out (txnsB l) ((txnsB l).length : Int) (n : Int)) (out ++ rest.flatMap fun a => pairsOf l a (txnsB l))) ?_ ?_
  · exact key [] (by simp)
  · intro out _
    exact ev_last fun k => by rw [spec_l3Conflicts_h3_eq, if_neg (by omega)]; simp
  · intro n a rest hn hx hd ih out ho
    have d1 : (n : Int) < ((txnsB l).length : Int) := by omega
    have d2 : (0 : Int) ≤ (n : Int) := by omega
    refine ev_shift ?_
    simp only [spec_l3Conflicts_h3_eq, ev_ite_iff, ev_none_iff, rdT_get (e := .int .i64) hx, ev_bind_iff (l3Txns_ev l (show l.length ≤ 1048576 by omega))]
    rw [if_pos d1, if_pos d2, if_pos d1]
    refine row_ev l a n hn hl out ho _ ?_
    have hp : (pairsOf l a (txnsB l)).length ≤ 8 := by
      have := List.length_filter_le (fun b => foundB a b l) (txnsB l)
      unfold pairsOf; rw [List.length_map]; omega
    have := ih (out ++ pairsOf l a (txnsB l)) (by rw [List.length_append]; omega)
    simpa using this
def outOf (b : OpT) (p : List OpT) : List PairT := (p.filter fun a => clash a b).map fun a => (a.2.1, b.2.1)
theorem out_ev (l : List OpT) (b : OpT) (i : Nat) (hi : i < l.length) (hl : l.length ≤ 60) (out : List PairT) (ho : out.length ≤ i * 60) (res : List PairT)
    (H : Ev (fun k => impl_conflicts_h3 k l (out ++ outOf b (l.take i)) l (l.length : Int) ((i + 1 : Nat) : Int)) res) :
    Ev (fun k => impl_conflicts_h6 k l out b l (l.length : Int) (i : Int) (l.take i) ((l.take i).length : Int) 0) res := by
  have hp : (l.take i).length ≤ 60 := by rw [List.length_take]; omega
  generalize l.take i = p at *
  have key := drop_ind0 p (fun j rs => ∀ out : List PairT, out.length ≤ i * 60 + j → Ev (fun k => impl_conflicts_h3 k l (out ++ outOf b rs) l (l.length : Int) ((i + 1 : Nat) : Int)) res → Ev (fun k => impl_conflicts_h6 k l out b l (l.length : Int) (i : Int) p (p.length : Int) (j : Int)) res) ?_ ?_
  · exact key out (by omega) H
  · intro out ho H
    refine ev_shift ?_
    simp only [impl_conflicts_h6_eq, ev_ite_iff, wrap_nat (show i < 9223372036854775807 by omega)]
    rw [if_neg (by omega)]
    simpa [outOf] using H
  · intro j a rs hj hx hd ih out ho H
    have d1 : (j : Int) < (p.length : Int) := by omega
    have d2 : (0 : Int) ≤ (j : Int) := by omega
    have b1 : out.length + (List.cons (a.2.1, b.2.1) []).length ≤ 8796093022208 := by simp; omega
    have ihF : outOf b (a :: rs) = outOf b rs → Ev (fun k => impl_conflicts_h6 k l out b l (l.length : Int) (i : Int) p (p.length : Int) ((j + 1 : Nat) : Int)) res := fun e => ih out (by omega) (by rw [e] at H; exact H)
    have ihT : outOf b (a :: rs) = (a.2.1, b.2.1) :: outOf b rs → Ev (fun k => impl_conflicts_h6 k l (out ++ [(a.2.1, b.2.1)]) b l (l.length : Int) (i : Int) p (p.length : Int) ((j + 1 : Nat) : Int)) res := fun e => ih _ (by simp; omega) (by rw [e] at H; simpa using H)
    clear ih H
    refine ev_shift ?_
    simp only [impl_conflicts_h6_eq, ev_ite_iff, ev_none_iff, rdT_get (e := OpK) hx, wrap_nat (show j < 9223372036854775807 by omega)]
    rw [if_pos d1, if_pos d2, if_pos d1]
    by_cases h1 : a.2.1 = b.2.1
    · rw [if_neg (by simp [h1])]
      exact ihF (by simp [outOf, clash, h1])
    · rw [if_pos h1]
      by_cases h2 : a.2.2 = ByteArray.mk (Array.mk [])
      · rw [if_neg (by simp [h2])]
        exact ihF (by simp [outOf, clash, h2])
      · rw [if_pos h2]
        by_cases h3 : a.2.2 = b.2.2
        · rw [if_pos h3]
          have h2' : ¬ b.2.2 = ByteArray.mk (Array.mk []) := by rw [← h3]; exact h2
          by_cases h4 : a.1 = 2
          · rw [if_pos h4, if_pos b1]
            exact ihT (by simp [outOf, clash, h1, h2', h3, h4])
          · rw [if_neg h4]
            by_cases h5 : b.1 = 2
            · rw [if_pos h5, if_pos b1]
              exact ihT (by simp [outOf, clash, h1, h2', h3, h5])
            · rw [if_neg h5]
              exact ihF (by simp [outOf, clash, h4, h5])
        · rw [if_neg h3]
          exact ihF (by simp [outOf, clash, h3])
theorem implConf_ev (l : List OpT) (hl : l.length ≤ 60) (hb : opsB l = true) : Ev (fun k => impl_conflicts k l) (specC l) := by
  refine ev_congr (fun k => impl_conflicts_eq k l) ?_
  have key := drop_ind0 l (fun i rest => ∀ out : List PairT, out.length ≤ i * 60 → (∀ z, z ∈ out ++ outFrom (l.take i) rest ↔ z ∈ specC l) → Ev (fun k => impl_conflicts_h3 k l out l (l.length : Int) (i : Int)) (specC l)) ?_ ?_
  · exact key [] (by simp) (fun z => by simpa using out_mem hb z)
  · intro out ho hm
    have hol : out.length ≤ 1048576 := by
      have : l.length * 60 ≤ 60 * 60 := Nat.mul_le_mul_right _ hl
      omega
    have hs := sortPairs_ev out (specC l) (by omega) (specC_lt l) (fun z => by simpa [outFrom] using hm z)
    refine ev_shift ?_
    simp only [impl_conflicts_h3_eq, ev_ite_iff]
    rw [if_neg (by omega)]
    exact ev_bind hs (ev_some _)
  · intro i b rest hi hx hd ih out ho hm
    have d1 : (i : Int) < (l.length : Int) := by omega
    have d2 : (0 : Int) ≤ (i : Int) := by omega
    have d3 : (i : Int) ≤ (l.length : Int) := by omega
    refine ev_shift ?_
    simp only [impl_conflicts_h3_eq, ev_ite_iff, ev_none_iff, rdT_get (e := OpK) hx, Int.toNat_natCast, Int.toNat_zero, List.drop_zero]
    rw [if_pos d1, if_pos d2, if_pos d1, if_pos d2, if_pos d3]
    have hp : (outOf b (l.take i)).length ≤ 60 := by
      have h1 := List.length_filter_le (fun a => clash a b) (l.take i)
      have h2 := List.length_take_le i l
      unfold outOf; rw [List.length_map]
      have h3 : (l.take i).length ≤ l.length := by rw [List.length_take]; omega
      omega
    refine out_ev l b i hi hl out ho _ (ih _ (by rw [List.length_append]; omega) ?_)
    intro z
    rw [← hm z, take_snoc hx, List.append_assoc]
    rfl

/-! ### cats -/
theorem wrap_i64 {x : Int} (h0 : -9223372036854775808 ≤ x) (h1 : x ≤ 9223372036854775807) : IntKind.wrap .i64 x = x := by
  rw [← wrapK_eq]; unfold wrapK; rw [if_pos rfl]; exact wrap_of h0 h1
theorem catS_size0 (a b : ByteArray) : (catS a b).size = a.size + b.size := by
  show (catS a b).data.size = a.data.size + b.data.size
  simp [catS]

/-! ### mtext -/
theorem mt_ex : ∀ (n : Nat) (acc : ByteArray), acc.size + n ≤ 1099511627776 → ∃ r, Ev (fun k => laws_markText_h4 k (n : Int) acc) r := by
  intro n
  induction n using Nat.strongRecOn with
  | ind n ih =>
    intro acc ha
    by_cases h0 : n = 0
    · subst h0
      refine ⟨catS (ByteArray.mk (Array.mk (List.cons 109 []))) acc, ev_last fun k => ?_⟩
      rw [laws_markText_h4_eq, if_neg (by omega), if_pos (by have : (ByteArray.mk (Array.mk (List.cons 109 []))).size = 1 := rfl; omega)]
    · have hd : Int.tdiv (n : Int) 10 = ((n / 10 : Nat) : Int) := by rw [Int.tdiv_eq_ediv_of_nonneg (by omega)]; omega
      obtain ⟨r, hr⟩ := ih (n / 10) (by omega) (catS (bytesOf [IntKind.wrap .u8 (wrap64 (48 + Int.tmod (n : Int) 10))]) acc) (by
        rw [catS_size0]
        have : (bytesOf [IntKind.wrap .u8 (wrap64 (48 + Int.tmod (n : Int) 10))]).size = 1 := rfl
        omega)
      refine ⟨r, ev_shift ?_⟩
      simp only [laws_markText_h4_eq, ev_ite_iff, hd, wrap_i64 (x := ((n / 10 : Nat) : Int)) (by omega) (by omega)]
      have : (bytesOf [IntKind.wrap .u8 (wrap64 (48 + Int.tmod (n : Int) 10))]).size = 1 := rfl
      rw [if_pos (by omega), if_pos (by omega)]
      exact hr
theorem mark_ex (n : Int) (hn : n ≤ 1073741824) : ∃ r, Ev (fun k => laws_markText k n) r := by
  by_cases h : n ≤ 0
  · exact ⟨_, ev_congr (fun k => laws_markText_eq k n) (ev_if_pos h (ev_some _))⟩
  · obtain ⟨r, hr⟩ := mt_ex n.toNat (ByteArray.mk (Array.mk [])) (by have : (ByteArray.mk (Array.mk [])).size = 0 := rfl; omega)
    refine ⟨r, ev_congr (fun k => laws_markText_eq k n) (ev_if_neg h ?_)⟩
    rw [show ((n.toNat : Nat) : Int) = n by omega] at hr
    exact hr
open Classical in
noncomputable def mtx (n : Int) : ByteArray := if h : ∃ r, Ev (fun k => laws_markText k n) r then Classical.choose h else ByteArray.mk (Array.mk [])
theorem mtx_ev (n : Int) (hn : n ≤ 1073741824) : Ev (fun k => laws_markText k n) (mtx n) := by
  have h := mark_ex n hn
  unfold mtx
  rw [dif_pos h]
  exact Classical.choose_spec h

/-! ### markop3 -/
noncomputable def emOp (m : Int) : OpT := (m, m + 1, mtx (m + 2))
theorem upOp {xs : List OpT} {n : Nat} {x : OpT} (hx : xs[n]? = some x) (v0 v1 : Int) (v2 : ByteArray) :
    upAt OpK [2] .str v2 (upAt OpK [1] (.int .i64) v1 (upAt OpK [0] (.int .i64) v0 xs (n : Int)) (n : Int)) (n : Int) = xs.set n (v0, v1, v2) := by
  have hn : n < xs.length := (List.getElem?_eq_some_iff.1 hx).1
  rw [upAt_get (e := OpK) (k := .int .i64) (w := (v0, x.2)) hx rfl, upAt_set (e := OpK) (k := .int .i64) (w := (v0, v1, x.2.2)) hn rfl, upAt_set (e := OpK) (k := .str) (w := (v0, v1, v2)) hn rfl]
theorem upLenOp (p : List Nat) (k : Kind) (y : k.T) (l : List OpT) (i : Int) : @List.length OpT (upAt OpK p k y l i) = @List.length OpT l := upAt_len (e := OpK)
theorem markOpS_ev (l : List OpT) (m : Int) (h0 : 0 ≤ m) (hm : m + 3 * l.length ≤ 1073741824) : Ev (fun k => laws_markOpS k l m) (mkList emOp m 3 l.length, m + 3 * (l.length : Int)) := by
  refine ev_congr (fun k => laws_markOpS_eq k l m) ?_
  refine mark_loop (fun k l c i => laws_markOpS_h2 k l c i) emOp m 3 l.length (fun k xs c hx => ?_) (fun n xs r hn hx H => ?_) l rfl
  · rw [laws_markOpS_h2_eq, if_neg (by omega)]
  · have e1 : wrap64 (m + 3 * (n : Int) + 1) = m + 3 * (n : Int) + 1 := wrap_of (by omega) (by omega)
    have e2 : wrap64 (m + 3 * (n : Int) + 1 + 1) = m + 3 * (n : Int) + 2 := by rw [wrap_of (by omega) (by omega)]; omega
    have e3 : wrap64 (m + 3 * (n : Int) + 2 + 1) = m + 3 * ((n + 1 : Nat) : Int) := by rw [wrap_of (by omega) (by omega)]; omega
    have hnx : n < xs.length := by omega
    have hg : xs[n]? = some xs[n] := List.getElem?_eq_getElem hnx
    generalize xs[n] = x at hg
    have d2 : (n : Int) < (xs.length : Int) := by omega
    have d3 : (0 : Int) ≤ (n : Int) := by omega
    refine ev_shift ?_
    simp only [laws_markOpS_h2_eq, ev_ite_iff, e1, e2, e3, wrap_nat (show n < 9223372036854775807 by omega), upLenOp, if_pos d2, if_pos d3, ev_bind_iff (mtx_ev (m + 3 * (n : Int) + 2) (by omega)), upOp hg]
    exact H

/-! ### txns -/
def leI (x y : Int) : Bool := decide (x ≤ y)
def commitsB (l : List OpT) : List Int := (l.filter fun o => decide (o.1 = 3)).map fun o => o.2.1
theorem txnsOf_ev (l : List OpT) (hl : l.length ≤ 1048576) : Ev (fun k => impl_txnsOf k l) (List.mergeSort (commitsB l) leI) := by
  have hsort : ∀ out : List Int, out.length ≤ 1048576 → gvSortInt out = some (List.mergeSort out leI, ()) := fun out h => by unfold gvSortInt; rw [if_pos (by omega)]; rfl
  have key := drop_ind0 l (fun n rest => ∀ out : List Int, out.length ≤ n → Ev (fun k => impl_txnsOf_h3 k out l (l.length : Int) (n : Int)) (List.mergeSort (out ++ commitsB rest) leI)) ?_ ?_
  · exact ev_congr (fun k => impl_txnsOf_eq k l) (key [] (by simp))
  · intro out ho
    refine ev_last fun k => ?_
    rw [impl_txnsOf_h3_eq, if_neg (by omega), hsort out (by omega)]
    simp [commitsB]
  · intro n o rest hn hx hd ih out ho
    refine ev_shift ?_
    simp only [impl_txnsOf_h3_eq, rdT_get (e := OpK) hx, wrap_nat (show n < 9223372036854775807 by omega), ev_ite_iff, ev_none_iff]
    rw [if_pos (by omega), if_pos (by omega), if_pos (by omega)]
    by_cases h : o.1 = 3
    · rw [if_pos h, if_pos (by simp; omega)]
      have := ih (out ++ [o.2.1]) (by simp; omega)
      simpa [commitsB, h] using this
    · rw [if_neg h]
      have := ih out (by omega)
      simpa [commitsB, h] using this
theorem commits_mem {l : List OpT} {t : Int} : t ∈ commitsB l ↔ ∃ o ∈ l, o.1 = 3 ∧ o.2.1 = t := by
  simp only [commitsB, List.mem_map, List.mem_filter, decide_eq_true_eq]
  constructor
  · rintro ⟨o, ⟨h1, h2⟩, h3⟩; exact ⟨o, h1, h2, h3⟩
  · rintro ⟨o, h1, h2, h3⟩; exact ⟨o, ⟨h1, h2⟩, h3⟩
theorem commits_nodup : ∀ {l : List OpT}, opsFrom l = true → (commitsB l).Nodup
  | [], _ => by simp [commitsB]
  | o :: r, h => by
    simp only [opsFrom, Bool.and_eq_true] at h
    have ih := commits_nodup h.2.2
    unfold commitsB
    rw [List.filter_cons]
    by_cases h3 : o.1 = 3
    · rw [if_pos (by simpa using h3), List.map_cons, List.nodup_cons]
      refine ⟨fun hm => ?_, ih⟩
      obtain ⟨x, hx, _, hx2⟩ := commits_mem.1 hm
      have hc := h.2.1
      simp only [condT, if_pos h3, Bool.not_eq_true', List.any_eq_false] at hc
      exact hc x hx (by simp [sameT, hx2])
    · rw [if_neg (by simpa using h3)]
      exact ih
theorem txn_commits : ∀ {l : List OpT}, opsFrom l = true → ∀ o ∈ l, ∃ x ∈ l, x.1 = 3 ∧ x.2.1 = o.2.1
  | [], _, o, ho => by cases ho
  | y :: r, h, o, ho => by
    simp only [opsFrom, Bool.and_eq_true] at h
    rcases List.mem_cons.1 ho with rfl | ho
    · by_cases h3 : o.1 = 3
      · exact ⟨o, by simp, h3, rfl⟩
      · have hc := h.2.1
        simp only [condT, if_neg h3, List.any_eq_true] at hc
        obtain ⟨x, hx, hd⟩ := hc
        simp only [doneT, Bool.and_eq_true, decide_eq_true_eq] at hd
        exact ⟨x, List.mem_cons_of_mem _ hx, hd.2, hd.1⟩
    · obtain ⟨x, hx, a, b⟩ := txn_commits h.2.2 o ho
      exact ⟨x, List.mem_cons_of_mem _ hx, a, b⟩
theorem sort_le (l : List Int) : (List.mergeSort l leI).Pairwise (· ≤ ·) := by
  have := List.pairwise_mergeSort (le := leI) (fun a b c h1 h2 => by simp only [leI, decide_eq_true_eq] at *; omega) (fun a b => by simp only [leI, Bool.or_eq_true, decide_eq_true_eq]; omega) l
  exact this.imp fun h => by simpa [leI] using h
theorem sort_unique {a b : List Int} (hb : b.Pairwise (· < ·)) (hp : a.Perm b) : List.mergeSort a leI = b := by
  refine List.Perm.eq_of_pairwise (le := (· ≤ ·)) (fun x y _ _ h1 h2 => by omega) (sort_le a) (hb.imp fun h => by omega) ((List.mergeSort_perm a leI).trans hp)
theorem txns_eq {l : List OpT} (h : opsB l = true) : List.mergeSort (commitsB l) leI = txnsB l := by
  simp only [opsB, Bool.and_eq_true] at h
  refine sort_unique (txns_lt l) ((List.perm_ext_iff_of_nodup (commits_nodup h.2) (txns_nodup l)).2 fun t => ?_)
  rw [commits_mem, txns_mem]
  constructor
  · rintro ⟨o, ho, _, rfl⟩
    exact ⟨opOk_txn (opsFrom_ok' h.2 o ho), o, ho, rfl⟩
  · rintro ⟨_, o, ho, rfl⟩
    obtain ⟨x, hx, a, b⟩ := txn_commits h.2 o ho
    exact ⟨x, hx, a, b⟩

/-! ### has -/
def hasB (l : List Int) (n : Int) : Bool := l.any fun x => decide (x = n)
theorem hasB_iff {l : List Int} {n : Int} : hasB l n = true ↔ n ∈ l := by simp [hasB]
theorem l1Has_ev (l : List Int) (n : Int) (hl : l.length ≤ 140737488355328) : Ev (fun k => spec_l1Has k l n) (hasB l n) := by
  have key := drop_ind0 l (fun j rest => Ev (fun k => spec_l1Has_h2 k n l (l.length : Int) (j : Int)) (hasB rest n)) ?_ ?_
  · exact ev_congr (fun k => spec_l1Has_eq k l n) key
  · exact ev_last fun k => by rw [spec_l1Has_h2_eq, if_neg (by omega)]; rfl
  · intro j x rest hj hx hd ih
    refine ev_shift ?_
    simp only [spec_l1Has_h2_eq, rdT_get (e := .int .i64) hx, wrap_nat (show j < 9223372036854775807 by omega), ev_ite_iff, ev_none_iff, ev_some_iff]
    rw [if_pos (by omega), if_pos (by omega), if_pos (by omega)]
    unfold hasB
    rw [List.any_cons]
    by_cases h : x = n
    · rw [if_pos h]; simp [h]
    · rw [if_neg h]; simpa [h, hasB] using ih

/-! ### markint -/
theorem markIntS_ev (l : List Int) (m : Int) (h0 : 0 ≤ m) (hm : m + l.length ≤ 1073741824) : Ev (fun k => laws_markIntS k l m) (mkList (fun k => k) m 1 l.length, m + 1 * (l.length : Int)) := by
  refine ev_congr (fun k => laws_markIntS_eq k l m) ?_
  refine mark_loop (fun k l c i => laws_markIntS_h2 k l c i) (fun k => k) m 1 l.length (fun k xs c hx => ?_) (fun n xs r hn hx H => ?_) l rfl
  · rw [laws_markIntS_h2_eq, if_neg (by omega)]
  · refine ev_shift ?_
    simp only [laws_markIntS_h2_eq, ev_ite_iff, Int.toNat_natCast, wrap_nat (show n < 9223372036854775807 by omega), wrap_of (x := m + 1 * (n : Int) + 1) (by omega) (by omega)]
    rw [if_pos (by omega), if_pos (by omega), if_pos (by omega)]
    rw [show m + 1 * (n : Int) + 1 = m + 1 * ((n + 1 : Nat) : Int) by omega]
    exact H

/-! ### heldint -/
theorem heldIntS_ev (m : Int) (N : Nat) (h0 : 0 ≤ m) (hm : m + N ≤ 1073741824) : Ev (fun k => laws_heldIntS k (mkList (fun k => k) m 1 N) m) (m + 1 * (N : Int)) := by
  refine ev_congr (fun k => laws_heldIntS_eq k _ m) ?_
  have hl := mkList_len (fun k : Int => k) m 1 N
  refine held_loop (fun k c i => laws_heldIntS_h2 k (mkList (fun k => k) m 1 N) c i) (fun k => k) m 1 N (fun k c => ?_) (fun n r hn hx H => ?_)
  · rw [laws_heldIntS_h2_eq, if_neg (by omega)]
  · refine ev_shift ?_
    simp only [laws_heldIntS_h2_eq, ev_ite_iff, rdT_get (e := .int .i64) hx, wrap_nat (show n < 9223372036854775807 by omega), wrap_of (x := m + 1 * (n : Int) + 1) (by omega) (by omega)]
    rw [if_pos (by omega), if_pos (by omega), if_pos (by omega), if_neg (by simp)]
    rw [show m + 1 * (n : Int) + 1 = m + 1 * ((n + 1 : Nat) : Int) by omega]
    exact H

/-! ### int -/
theorem eqIntS_ev (l) (hl : l.length ≤ 140737488355328) : Ev (fun k => laws_eqIntS k l l) true := by
  refine ev_congr (fun k => laws_eqIntS_eq k l l) ?_
  simp only [ev_ite_iff]
  rw [if_neg (by simp)]
  exact eq_row0 (e := .int .i64) (l := l) (c := fun x y => x = y) (fun k a b i => laws_eqIntS_h4_eq k a b i) (fun x => rfl) (by omega)

/-! ### serialorder -/
/-! an order one by one -/
/-- whether what must be ahead of it is there -/
def readyB (E : List PairT) (out : List Int) (t : Int) : Bool := E.all fun e => !decide (e.2 = t) || hasB out e.1
/-- whether nothing is ahead of it -/
def freeB (E : List PairT) (left : List Int) (t : Int) : Bool := !(E.any fun e => decide (e.2 = t) && hasB left e.1)
def nextB (T : List Int) (E : List PairT) (out : List Int) : Option Int := T.find? fun t => !hasB out t && readyB E out t
def ordB (T : List Int) (E : List PairT) : Nat → List Int → List Int × Bool
  | 0, out => (out, true)
  | d + 1, out => match nextB T E out with | some t => ordB T E d (out ++ [t]) | none => ([], false)
def leftB (T out : List Int) : List Int := T.filter fun t => !hasB out t
theorem left_mem {T out : List Int} {x : Int} : x ∈ leftB T out ↔ x ∈ T ∧ x ∉ out := by
  unfold leftB
  rw [List.mem_filter]
  constructor
  · rintro ⟨h1, h2⟩
    refine ⟨h1, fun h => ?_⟩
    rw [hasB_iff.2 h] at h2; cases h2
  · rintro ⟨h1, h2⟩
    refine ⟨h1, ?_⟩
    cases h : hasB out x with
    | false => rfl
    | true => exact absurd (hasB_iff.1 h) h2
theorem ready_free {T : List Int} {E : List PairT} (hE : ∀ e ∈ E, e.1 ∈ T) (out : List Int) (t : Int) : freeB E (leftB T out) t = readyB E out t := by
  rw [Bool.eq_iff_iff]
  unfold freeB readyB
  rw [Bool.not_eq_true', List.any_eq_false, List.all_eq_true]
  constructor
  · intro h e he
    have := h e he
    by_cases h2 : e.2 = t
    · have h3 : ¬ hasB (leftB T out) e.1 = true := by simpa [h2] using this
      rw [hasB_iff, left_mem] at h3
      have : e.1 ∈ out := Classical.byContradiction fun h4 => h3 ⟨hE e he, h4⟩
      simp [hasB_iff.2 this]
    · simp [h2]
  · intro h e he
    have := h e he
    by_cases h2 : e.2 = t
    · have h3 : hasB out e.1 = true := by simpa [h2] using this
      rw [hasB_iff] at h3
      have : ¬ hasB (leftB T out) e.1 = true := fun h4 => (left_mem.1 (hasB_iff.1 h4)).2 h3
      simp [this]
    · simp [h2]
theorem next_left {T : List Int} {E : List PairT} (hE : ∀ e ∈ E, e.1 ∈ T) (out : List Int) : nextB T E out = (leftB T out).find? (freeB E (leftB T out)) := by
  unfold nextB
  rw [show (leftB T out).find? (freeB E (leftB T out)) = (leftB T out).find? (readyB E out) from by congr 1; funext t; exact ready_free hE out t]
  unfold leftB
  rw [List.find?_filter]
  congr 1
  funext a
  cases hasB out a <;> cases readyB E out a <;> rfl
/-- one taken away -/
theorem left_take {T : List Int} (hT : T.Nodup) {out : List Int} {i : Nat} {t : Int} (hi : (leftB T out)[i]? = some t) : (leftB T out).take i ++ (leftB T out).drop (i + 1) = leftB T (out ++ [t]) := by
  have hnd : (leftB T out).Nodup := hT.filter _
  have key : ∀ (l : List Int) (i : Nat), l.Nodup → l[i]? = some t → l.take i ++ l.drop (i + 1) = l.filter fun x => !decide (x = t) := by
    intro l
    induction l with
    | nil => intro i _ h; simp at h
    | cons x l ih =>
      intro i hn h
      obtain ⟨h1, h2⟩ := List.nodup_cons.1 hn
      cases i with
      | zero =>
        simp only [List.getElem?_cons_zero, Option.some.injEq] at h
        subst h
        simp only [List.take_zero, List.nil_append, Nat.zero_add, List.drop_succ_cons, List.drop_zero]
        rw [List.filter_cons_of_neg (by simp)]
        refine (List.filter_eq_self.2 fun y hy => ?_).symm
        have : y ≠ x := fun e => h1 (e ▸ hy)
        simp [this]
      | succ i =>
        simp only [List.getElem?_cons_succ] at h
        have hx : x ≠ t := fun e => h1 (by rw [e]; exact List.mem_of_getElem? h)
        rw [List.filter_cons_of_pos (by simp [hx])]
        simp only [List.take_succ_cons, List.cons_append, List.drop_succ_cons]
        rw [ih i h2 h]
  rw [key _ i hnd hi]
  unfold leftB
  rw [List.filter_filter]
  congr 1
  funext x
  rw [Bool.eq_iff_iff]
  simp only [Bool.and_eq_true, Bool.not_eq_true', decide_eq_false_iff_not, ← Bool.not_eq_true, hasB_iff, List.mem_append, List.mem_singleton]
  constructor
  · rintro ⟨h1, h2⟩ (h | h)
    · exact h2 h
    · exact h1 (by simpa using h)
  · intro h
    exact ⟨fun e => h (.inr (by simpa using e)), fun e => h (.inl e)⟩
theorem left_nil (T : List Int) : leftB T [] = T := by
  unfold leftB
  refine List.filter_eq_self.2 fun x _ => ?_
  cases h : hasB [] x with
  | false => rfl
  | true => have := hasB_iff.1 h; simp at this
theorem drop_get {α : Type} {l : List α} {n : Nat} {x : α} {rest : List α} (h : l.drop n = x :: rest) : l[n]? = some x := by
  have := congrArg (fun z : List α => z[0]?) h
  simpa only [List.getElem?_drop, Nat.add_zero, List.getElem?_cons_zero] using this
/-! the reference's -/
section
variable {T out : List Int} {E : List PairT} {res : List Int × Bool}
theorem edge_ev (hE : E.length ≤ 64) (ho : out.length ≤ 8) (t i : Int) (L : Int) : ∀ (rest : List PairT) (j : Nat) (rdy : Bool), E.drop j = rest → E.length = j + rest.length →
    ((rdy && rest.all fun e => !decide (e.2 = t) || hasB out e.1) = true → Ev (fun k => spec_l3Order_h18 k out T E t) res) →
    ((rdy && rest.all fun e => !decide (e.2 = t) || hasB out e.1) = false → Ev (fun k => spec_l3Order_h7 k out T E 0 T L (wrap64 (i + 1))) res) →
    Ev (fun k => spec_l3Order_h11 k out T E 0 t rdy T L i E (E.length : Int) (j : Int)) res
  | [], j, rdy, hd, hlen, h1, h2 => by
    simp at hlen
    refine ev_shift ?_
    simp only [spec_l3Order_h11_eq, ev_ite_iff]
    rw [if_neg (by omega)]
    cases rdy with
    | true => rw [if_pos rfl]; exact h1 rfl
    | false => rw [if_neg (by simp)]; exact h2 rfl
  | e :: rest, j, rdy, hd, hlen, h1, h2 => by
    simp only [List.length_cons] at hlen
    have hx := drop_get hd
    refine ev_shift ?_
    simp only [spec_l3Order_h11_eq, ev_ite_iff, rdT_get (e := PairK) hx, wrap_nat (show j < 9223372036854775807 by omega), ev_bind_iff (l1Has_ev out e.1 (by omega))]
    rw [if_pos (by omega), if_pos (by omega), if_pos (by omega)]
    cases rdy with
    | true =>
      rw [if_pos rfl]
      by_cases he : e.2 = t
      · rw [if_neg (by simpa using he)]
        refine edge_ev hE ho t i L rest (j + 1) _ (drop_next hd) (by omega) (fun h => h1 ?_) (fun h => h2 ?_)
        · rw [List.all_cons]; simpa [he] using h
        · rw [List.all_cons]; simpa [he] using h
      · rw [if_pos he]
        refine edge_ev hE ho t i L rest (j + 1) _ (drop_next hd) (by omega) (fun h => h1 ?_) (fun h => h2 ?_)
        · rw [List.all_cons]; simpa [he] using h
        · rw [List.all_cons]; simpa [he] using h
    | false =>
      rw [if_neg (by simp)]
      exact edge_ev hE ho t i L rest (j + 1) _ (drop_next hd) (by omega) (fun h => by simp at h) (fun h => h2 rfl)
theorem pick_ev (hE : E.length ≤ 64) (ho : out.length ≤ 8) (hT : T.length ≤ 8) : ∀ (rest : List Int) (n : Nat), T.drop n = rest → T.length = n + rest.length →
    (∀ t, rest.find? (fun t => !hasB out t && readyB E out t) = some t → Ev (fun k => spec_l3Order_h18 k out T E t) res) →
    (rest.find? (fun t => !hasB out t && readyB E out t) = none → Ev (fun k => spec_l3Order_h18 k out T E 0) res) →
    Ev (fun k => spec_l3Order_h7 k out T E 0 T (T.length : Int) (n : Int)) res
  | [], n, hd, hlen, h1, h2 => by
    simp at hlen
    refine ev_shift ?_
    simp only [spec_l3Order_h7_eq, ev_ite_iff]
    rw [if_neg (by omega)]
    exact h2 rfl
  | t :: rest, n, hd, hlen, h1, h2 => by
    simp only [List.length_cons] at hlen
    have hx := drop_get hd
    refine ev_shift ?_
    simp only [spec_l3Order_h7_eq, ev_ite_iff, rdT_get (e := .int .i64) hx, ev_bind_iff (l1Has_ev out t (by omega))]
    rw [if_pos (by omega), if_pos (by omega), if_pos (by omega)]
    refine edge_ev hE ho t (n : Int) _ E 0 _ rfl (by simp) (fun h => h1 t ?_) (fun h => ?_)
    · rw [List.find?_cons_of_pos]
      exact h
    · rw [wrap_nat (show n < 9223372036854775807 by omega)]
      have hs : (t :: rest).find? (fun t => !hasB out t && readyB E out t) = rest.find? (fun t => !hasB out t && readyB E out t) := by
        rw [List.find?_cons_of_neg]
        intro h'
        have h' : (!hasB out t && readyB E out t) = true := h'
        unfold readyB at h'
        rw [h] at h'; cases h'
      exact pick_ev hE ho hT rest (n + 1) (drop_next hd) (by omega) (fun t' h' => h1 t' (hs.trans h')) (fun h' => h2 (hs.trans h'))
end
theorem specOrd_ev {T : List Int} {E : List PairT} (hE : E.length ≤ 64) (hT : T.length ≤ 8) (h0 : ∀ t ∈ T, t ≠ 0) : ∀ (d : Nat) (out : List Int), out.length + d = T.length → Ev (fun k => spec_l3Order_h4 k out T E) (ordB T E d out)
  | 0, out, h => ev_last fun k => by rw [spec_l3Order_h4_eq, if_neg (by omega)]; rfl
  | d + 1, out, h => by
    refine ev_shift ?_
    simp only [spec_l3Order_h4_eq, ev_ite_iff]
    rw [if_pos (by omega)]
    refine pick_ev hE (by omega) hT T 0 rfl (by simp) (fun t ht => ?_) (fun hn => ?_)
    · have hne := h0 t (List.mem_of_find?_eq_some ht)
      have ht : nextB T E out = some t := ht
      refine ev_shift ?_
      simp only [spec_l3Order_h18_eq, ev_ite_iff, ordB, ht]
      rw [if_neg hne, if_pos (by simp; omega)]
      exact specOrd_ev hE hT h0 d (out ++ [t]) (by simp; omega)
    · have hn : nextB T E out = none := hn
      refine ev_shift ?_
      simp only [spec_l3Order_h18_eq, ev_ite_iff, ordB, hn, ev_some_iff]
      rw [if_pos trivial]
      trivial
/-! the program's -/
theorem contains_ev (l : List Int) (x : Int) (hl : l.length ≤ 8) : Ev (fun k => slices_Contains k l x) (hasB l x) := by
  have key : ∀ (rest : List Int) (n : Nat), l.drop n = rest → l.length = n + rest.length → ∃ v : Int, Ev (fun k => slices_Index_h2 k l x (l.length : Int) (n : Int)) v ∧ (0 ≤ v ↔ x ∈ rest) := by
    intro rest
    induction rest with
    | nil =>
      intro n hd hlen
      simp at hlen
      exact ⟨-1, ev_last fun k => by rw [slices_Index_h2_eq, if_neg (by omega)], by simp⟩
    | cons y rest ih =>
      intro n hd hlen
      simp only [List.length_cons] at hlen
      have hx := drop_get hd
      obtain ⟨v, hv, hi⟩ := ih (n + 1) (drop_next hd) (by omega)
      by_cases hxy : x = y
      · refine ⟨(n : Int), ?_, by simp [hxy]⟩
        refine ev_shift ?_
        simp only [slices_Index_h2_eq, ev_ite_iff, rdT_get (e := .int .i64) hx, ev_some_iff]
        rw [if_pos (by omega), if_pos (by omega), if_pos (by omega), if_pos hxy]
        trivial
      · refine ⟨v, ?_, by rw [hi]; simp [hxy]⟩
        refine ev_shift ?_
        simp only [slices_Index_h2_eq, ev_ite_iff, rdT_get (e := .int .i64) hx, wrap_nat (show n < 9223372036854775807 by omega)]
        rw [if_pos (by omega), if_pos (by omega), if_pos (by omega), if_neg hxy]
        exact hv
  obtain ⟨v, hv, hi⟩ := key l 0 rfl (by simp)
  refine ev_congr (fun k => slices_Contains_eq k l x) (ev_bind (ev_congr (fun k => slices_Index_eq k l x) hv) ?_)
  have : decide (0 ≤ v) = hasB l x := by
    rw [Bool.eq_iff_iff, decide_eq_true_eq, hi, hasB_iff]
  rw [this]
  exact ev_some _
theorem ahead_ev (E : List PairT) (left : List Int) (t : Int) (hE : E.length ≤ 64) (hl : left.length ≤ 8) : Ev (fun k => slices_ContainsFunc k E (t, (left, ()))) (E.any fun e => decide (e.2 = t) && hasB left e.1) := by
  have one : ∀ e : PairT, Ev (fun k => impl_SerialOrder_1_1 k e t left) (decide (e.2 = t) && hasB left e.1) := by
    intro e
    refine ev_congr (fun k => impl_SerialOrder_1_1_eq k e t left) ?_
    by_cases he : e.2 = t
    · refine ev_if_pos he (ev_bind (contains_ev left e.1 hl) ?_)
      rw [decide_eq_true he, Bool.true_and]
      exact ev_some _
    · refine ev_if_neg he ?_
      rw [decide_eq_false he, Bool.false_and]
      exact ev_some _
  have key : ∀ (rest : List PairT) (n : Nat), E.drop n = rest → E.length = n + rest.length → ∃ v : Int, Ev (fun k => slices_IndexFunc_h2 k E (t, (left, ())) (E.length : Int) (n : Int)) v ∧ (0 ≤ v ↔ (rest.any fun e => decide (e.2 = t) && hasB left e.1) = true) := by
    intro rest
    induction rest with
    | nil =>
      intro n hd hlen
      simp at hlen
      exact ⟨-1, ev_last fun k => by rw [slices_IndexFunc_h2_eq, if_neg (by omega)], by simp⟩
    | cons y rest ih =>
      intro n hd hlen
      simp only [List.length_cons] at hlen
      have hx := drop_get hd
      obtain ⟨v, hv, hi⟩ := ih (n + 1) (drop_next hd) (by omega)
      cases hy : decide (y.2 = t) && hasB left y.1 with
      | true =>
        refine ⟨(n : Int), ?_, by rw [List.any_cons, hy]; simp⟩
        refine ev_shift ?_
        simp only [slices_IndexFunc_h2_eq, ev_ite_iff, rdT_get (e := PairK) hx, ev_bind_iff (one y), ev_some_iff]
        rw [if_pos (by omega), if_pos (by omega), if_pos (by omega), if_pos hy]
        trivial
      | false =>
        refine ⟨v, ?_, by rw [hi, List.any_cons, hy]; simp⟩
        refine ev_shift ?_
        simp only [slices_IndexFunc_h2_eq, ev_ite_iff, rdT_get (e := PairK) hx, ev_bind_iff (one y), wrap_nat (show n < 9223372036854775807 by omega)]
        rw [if_pos (by omega), if_pos (by omega), if_pos (by omega), if_neg (by rw [hy]; simp)]
        exact hv
  obtain ⟨v, hv, hi⟩ := key E 0 rfl (by simp)
  refine ev_congr (fun k => slices_ContainsFunc_eq k E _) (ev_bind (ev_congr (fun k => slices_IndexFunc_eq k E _) hv) ?_)
  have : decide (0 ≤ v) = (E.any fun e => decide (e.2 = t) && hasB left e.1) := by
    rw [Bool.eq_iff_iff, decide_eq_true_eq, hi]
  rw [this]
  exact ev_some _
theorem first_ev (E : List PairT) (left : List Int) (hE : E.length ≤ 64) (hl : left.length ≤ 8) : ∃ v : Int, Ev (fun k => slices_IndexFunc_v1 k left (E, (left, ()))) v ∧ ((v = -1 ∧ left.find? (freeB E left) = none) ∨ ∃ (i : Nat) (t : Int), v = (i : Int) ∧ left[i]? = some t ∧ left.find? (freeB E left) = some t) := by
  have one : ∀ t : Int, Ev (fun k => impl_SerialOrder_1 k t E left) (freeB E left t) := fun t => ev_congr (fun k => impl_SerialOrder_1_eq k t E left) (ev_bind (ahead_ev E left t hE hl) (ev_some _))
  have key : ∀ (rest : List Int) (n : Nat), left.drop n = rest → left.length = n + rest.length → ∃ v : Int, Ev (fun k => slices_IndexFunc_v1_h2 k left (E, (left, ())) (left.length : Int) (n : Int)) v ∧ ((v = -1 ∧ rest.find? (freeB E left) = none) ∨ ∃ (i : Nat) (t : Int), v = (i : Int) ∧ left[i]? = some t ∧ rest.find? (freeB E left) = some t) := by
    intro rest
    induction rest with
    | nil =>
      intro n hd hlen
      simp at hlen
      exact ⟨-1, ev_last fun k => by rw [slices_IndexFunc_v1_h2_eq, if_neg (by omega)], .inl ⟨rfl, rfl⟩⟩
    | cons y rest ih =>
      intro n hd hlen
      simp only [List.length_cons] at hlen
      have hx := drop_get hd
      obtain ⟨v, hv, hi⟩ := ih (n + 1) (drop_next hd) (by omega)
      cases hy : freeB E left y with
      | true =>
        refine ⟨(n : Int), ?_, .inr ⟨n, y, rfl, hx, List.find?_cons_of_pos hy⟩⟩
        refine ev_shift ?_
        simp only [slices_IndexFunc_v1_h2_eq, ev_ite_iff, rdT_get (e := .int .i64) hx, ev_bind_iff (one y), ev_some_iff]
        rw [if_pos (by omega), if_pos (by omega), if_pos (by omega), if_pos hy]
        trivial
      | false =>
        have hs : (y :: rest).find? (freeB E left) = rest.find? (freeB E left) := List.find?_cons_of_neg (by rw [hy]; simp)
        refine ⟨v, ?_, by rw [hs]; exact hi⟩
        refine ev_shift ?_
        simp only [slices_IndexFunc_v1_h2_eq, ev_ite_iff, rdT_get (e := .int .i64) hx, ev_bind_iff (one y), wrap_nat (show n < 9223372036854775807 by omega)]
        rw [if_pos (by omega), if_pos (by omega), if_pos (by omega), if_neg (by rw [hy]; simp)]
        exact hv
  obtain ⟨v, hv, hi⟩ := key left 0 rfl (by simp)
  exact ⟨v, ev_congr (fun k => slices_IndexFunc_v1_eq k left _) hv, hi⟩
theorem implOrd_ev {T : List Int} {E : List PairT} (hE : E.length ≤ 64) (hT : T.length ≤ 8) (hnd : T.Nodup) (hET : ∀ e ∈ E, e.1 ∈ T) : ∀ (d : Nat) (out : List Int), (leftB T out).length = d → out.length + d = T.length → Ev (fun k => impl_SerialOrder_h5 k (leftB T out) () E out) (ordB T E d out)
  | 0, out, hl, h => ev_last fun k => by rw [impl_SerialOrder_h5_eq, if_neg (by omega)]; rfl
  | d + 1, out, hl, h => by
    obtain ⟨v, hv, hi⟩ := first_ev E (leftB T out) hE (by omega)
    rw [← next_left hET out] at hi
    refine ev_shift ?_
    simp only [impl_SerialOrder_h5_eq, ev_ite_iff, ev_bind_iff hv]
    rw [if_pos (by omega)]
    rcases hi with ⟨rfl, hn⟩ | ⟨i, t, rfl, hit, hn⟩
    · rw [if_pos (by omega)]
      simp only [ordB, hn, ev_some_iff]
    · have hlt : i < (leftB T out).length := (List.getElem?_eq_some_iff.1 hit).1
      have hdel : gvDelInt (leftB T out) (i : Int) (wrap64 ((i : Int) + 1)) = some (leftB T (out ++ [t])) := by
        rw [wrap_nat (show i < 9223372036854775807 by omega)]
        unfold gvDelInt
        rw [if_pos ⟨by omega, by omega, by omega, by omega⟩]
        have e1 : ((i : Int)).toNat = i := by omega
        have e2 : (((i + 1 : Nat) : Int)).toNat = i + 1 := by omega
        rw [e1, e2, left_take hnd hit]
      have hlen : (leftB T (out ++ [t])).length = d := by
        rw [← left_take hnd hit]
        simp
        omega
      rw [if_neg (by omega), if_pos (by omega), if_pos (by omega), rdT_get (e := .int .i64) hit, if_pos (by simp; omega)]
      simp only [hdel, ordB, hn]
      exact implOrd_ev hE hT hnd hET d (out ++ [t]) hlen (by simp; omega)
def orderB (l : List OpT) : List Int × Bool := cond (opsB l) (ordB (txnsB l) (specC l) (txnsB l).length []) ([], false)
theorem ord_len (T : List Int) (E : List PairT) : ∀ (d : Nat) (out : List Int), (ordB T E d out).1.length ≤ out.length + d
  | 0, out => Nat.le_refl _
  | d + 1, out => by
    simp only [ordB]
    cases nextB T E out with
    | none => simp
    | some t => have := ord_len T E d (out ++ [t]); simp only [List.length_append, List.length_singleton] at this; simp only; omega
theorem orderB_len (l : List OpT) : (orderB l).1.length ≤ 8 := by
  unfold orderB
  cases opsB l with
  | false => simp
  | true =>
    have := ord_len (txnsB l) (specC l) (txnsB l).length []
    have := txnsB_len8 l
    simp only [cond_true, List.length_nil] at *
    omega
theorem opsB_len60' {l : List OpT} (h : opsB l = true) : l.length ≤ 60 := by simp only [opsB, Bool.and_eq_true, decide_eq_true_eq] at h; exact h.1
theorem specC_from {l : List OpT} : ∀ e ∈ specC l, e.1 ∈ txnsB l := by
  intro e he
  unfold specC at he
  obtain ⟨a, ha, he⟩ := List.mem_flatMap.1 he
  obtain ⟨b, _, rfl⟩ := List.mem_map.1 he
  exact ha
theorem specOrder_ev (l : List OpT) (hl : l.length ≤ 1048576) (hk : sizesO l) : Ev (fun k => spec_SerialOrder k l) (orderB l) := by
  refine ev_congr (fun k => spec_SerialOrder_eq k l) ?_
  simp only [ev_bind_iff (specOps_ev l hl hk), ev_ite_iff, ev_some_iff]
  unfold orderB
  cases hb : opsB l with
  | false => simp
  | true =>
    rw [if_neg (by simp)]
    refine ev_bind (a := ordB (txnsB l) (specC l) (txnsB l).length []) (ev_congr (fun k => spec_l3Order_eq k l) (ev_bind (l3Txns_ev l hl) (ev_bind (specConf_ev l (opsB_len60' hb)) ?_))) (ev_some _)
    exact specOrd_ev (specC_len l) (txnsB_len8 l) (fun t ht => by have := (txns_mem.1 ht).1; omega) _ [] (by simp)
theorem implOrder_ev (l : List OpT) (hl : l.length ≤ 1048576) (hk : sizesO l) : Ev (fun k => impl_SerialOrder k l) (orderB l) := by
  refine ev_congr (fun k => impl_SerialOrder_eq k l) ?_
  simp only [ev_bind_iff (implOps_ev l hl hk), ev_ite_iff, ev_some_iff]
  unfold orderB
  cases hb : opsB l with
  | false => simp
  | true =>
    rw [if_neg (by simp)]
    have ht := txnsOf_ev l hl
    rw [txns_eq hb] at ht
    refine ev_bind ht (ev_bind (implConf_ev l (opsB_len60' hb) hb) ?_)
    have := implOrd_ev (specC_len l) (txnsB_len8 l) (txns_nodup l) specC_from (txnsB l).length [] (by rw [left_nil]) (by simp)
    rwa [left_nil] at this
theorem law (a0 : List OpT) (h0 : okT (.slice OpK) a0) : ∃ k, laws_FnExactSerialOrder k a0 = some true := by
  apply ev_fuel
  refine ev_congr (fun k => laws_FnExactSerialOrder_eq k a0) ?_
  have hs : ∀ x ∈ a0, szokOp x := fun x hx => (h0.2 x hx).2.2
  obtain ⟨v, hv, _, hB⟩ := szOpS_ev a0 (by have := h0.1; omega) hs 1048576 (by omega) (by omega)
  refine ev_bind hv ?_
  by_cases hneg : v < 0
  · exact ev_if_pos hneg (ev_some _)
  refine ev_if_neg hneg ?_
  obtain ⟨hl, _⟩ := hB (by omega)
  have spec := specOrder_ev a0 hl hs
  have impl := implOrder_ev a0 hl hs
  have to := toOpS_ev a0 hl
  have hlen := orderB_len a0
  generalize orderB a0 = r at spec impl hlen
  have eqr := eqIntS_ev r.1 (by omega)
  have mk := markIntS_ev r.1 1 (by omega) (by omega)
  have hd := heldIntS_ev 1 r.1.length (by omega) (by omega)
  have m0 := markOpS_ev a0 1 (by omega) (by omega)
  refine ev_bind to (ev_bind spec (ev_bind to (ev_bind impl (ev_bind eqr (ev_if_neg (by simp) (ev_if_neg (by simp) ?_))))))
  refine ev_bind to (ev_bind (eqOpS_ev a0 (by omega)) (ev_if_neg (by simp) ?_))
  refine ev_bind m0 (ev_if_neg (by simp only; omega) (ev_bind eqr (ev_if_neg (by simp) (ev_if_neg (by simp) ?_))))
  refine ev_bind mk (ev_bind hd (ev_if_neg (by omega) (ev_if_neg (by simp) ?_)))
  refine ev_bind to (ev_bind impl (ev_bind eqr (ev_if_neg (by simp) (ev_if_neg (by simp) ?_))))
  exact ev_bind hd (ev_if_neg (by omega) (ev_if_neg (by simp) (ev_some _)))

end Go.Proofs.YtfiaplpfimfgiaaDoor.Fms
