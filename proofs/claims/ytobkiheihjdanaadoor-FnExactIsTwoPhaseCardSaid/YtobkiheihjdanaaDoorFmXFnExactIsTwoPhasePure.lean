/- What the law's functions give: the pure part. -/
import Derived.Test.YtobkiheihjdanaaDoorFmAid
import Derived.Test.YtobkiheihjdanaaDoorFmOpn
import Derived.Test.YtobkiheihjdanaaDoorFmXFnExactIsTwoPhaseEq
set_option autoImplicit true
set_option maxRecDepth 100000
set_option linter.unusedVariables false
set_option linter.unusedSimpArgs false
set_option linter.unnecessarySimpa false
set_option linter.unusedSectionVars false
open Go Go.Fm Go.RowKit
namespace Go.Proofs.YtobkiheihjdanaaDoor.Fms
/-! ### base -/
theorem l1In_ev (n lo hi : Int) : Ev (fun k => spec_l1In k n lo hi) (decide (lo ≤ n ∧ n ≤ hi)) := ev_congr (fun k => by rw [spec_l1In_eq]) (by by_cases h : lo ≤ n <;> simp [ev_some_iff, h])

/-! ### inn -/
theorem in_ev (n lo hi : Int) : Ev (fun k => impl_in k n lo hi) (decide (lo ≤ n ∧ n ≤ hi)) := ev_congr (fun k => by rw [impl_in_eq]) (by by_cases h : lo ≤ n <;> simp [ev_some_iff, h])

/-! ### keys -/
def keyByte (b : UInt8) : Bool := (decide (97 ≤ b.toNat) && decide (b.toNat ≤ 122)) || (decide (48 ≤ b.toNat) && decide (b.toNat ≤ 57))
def keyB (s : ByteArray) : Bool := decide (1 ≤ s.size ∧ s.size ≤ 8) && s.data.toList.all keyByte
def keyCut : List UInt8 := [97, 98, 99, 100, 101, 102, 103, 104, 105, 106, 107, 108, 109, 110, 111, 112, 113, 114, 115, 116, 117, 118, 119, 120, 121, 122, 48, 49, 50, 51, 52, 53, 54, 55, 56, 57]
theorem keyCut_has (b : UInt8) : keyCut.contains b = keyByte b := by
  have h : ∀ n : Fin 256, keyCut.contains (UInt8.ofNat n.val) = keyByte (UInt8.ofNat n.val) := by decide +kernel
  have := h ⟨b.toNat, b.toNat_lt⟩
  simpa using this
theorem drop_nil {α : Type} (p : α → Bool) (l : List α) : (l.dropWhile p).isEmpty = l.all p := by
  induction l with
  | nil => rfl
  | cons x l ih => cases h : p x <;> simp [List.dropWhile_cons, h, ih]
theorem all_drop {α : Type} (p : α → Bool) (l : List α) : (l.dropWhile p).all p = l.all p := by
  induction l with
  | nil => rfl
  | cons x l ih => cases h : p x <;> simp [List.dropWhile_cons, h, ih]
theorem trim_nil (l : List UInt8) : (Go.Lib.trimS l keyCut).isEmpty = l.all keyByte := by
  unfold Go.Lib.trimS Go.Lib.trimLeftS Go.Lib.trimRightS
  rw [drop_nil, List.all_reverse, all_drop, List.all_reverse]
  congr 1
  funext b
  exact keyCut_has b
theorem mk_nil (l : List UInt8) : decide ((⟨l.toArray⟩ : ByteArray) = ByteArray.mk (Array.mk [])) = l.isEmpty := by
  cases l with
  | nil => exact decide_eq_true rfl
  | cons x l => exact decide_eq_false (fun h => by have := congrArg (fun b : ByteArray => b.data.size) h; simp at this)
theorem isKey_ev (s : ByteArray) : Ev (fun k => impl_isKey k s) (keyB s) := by
  refine ev_congr (fun k => impl_isKey_eq k s) ?_
  have e : MapW.strings_Trim.f s ⟨#[97, 98, 99, 100, 101, 102, 103, 104, 105, 106, 107, 108, 109, 110, 111, 112, 113, 114, 115, 116, 117, 118, 119, 120, 121, 122, 48, 49, 50, 51, 52, 53, 54, 55, 56, 57]⟩ = if s.size ≤ 9223372036854775807 then some ⟨(Go.Lib.trimS s.data.toList keyCut).toArray⟩ else none := by
    unfold MapW.strings_Trim.f
    by_cases h : s.size ≤ 9223372036854775807
    · rw [if_pos ⟨h, by decide, by decide⟩, if_pos h]; rfl
    · rw [if_neg (fun hh => h hh.1), if_neg h]
  simp only [e]
  unfold keyB
  by_cases h1 : (1 : Int) ≤ (s.size : Int)
  · by_cases h2 : (s.size : Int) ≤ 8
    · have h3 : 1 ≤ s.size ∧ s.size ≤ 8 := by omega
      rw [if_pos h1, if_pos h2, if_pos (by omega)]
      simp only [Option.bind_some, mk_nil, trim_nil, h3, decide_true, and_self, Bool.true_and]
      exact ev_some _
    · have h3 : ¬ (1 ≤ s.size ∧ s.size ≤ 8) := by omega
      rw [if_pos h1, if_neg h2]
      simp only [h3, decide_false, Bool.false_and]
      exact ev_some _
  · have h3 : ¬ (1 ≤ s.size ∧ s.size ≤ 8) := by omega
    rw [if_neg h1]
    simp only [h3, decide_false, Bool.false_and]
    exact ev_some _
theorem l1Key_ev (s : ByteArray) (hs : s.size ≤ 140737488355328) : Ev (fun k => spec_l1Key k s) (keyB s) := by
  have hl := size_len s
  have key := drop_ind0 s.data.toList (fun n rest => Ev (fun k => spec_l1Key_h2 k s (n : Int)) (rest.all keyByte && decide (1 ≤ s.size ∧ s.size ≤ 8))) ?_ ?_
  · refine ev_congr (fun k => spec_l1Key_eq k s) ?_
    unfold keyB
    rw [Bool.and_comm]
    exact key
  · refine ev_shift ?_
    simp only [spec_l1Key_h2_eq, ev_ite_iff, ev_bind_iff (l1In_ev _ _ _), ev_some_iff]
    rw [← hl, if_neg (by omega)]
    simp only [List.all_nil, Bool.true_and]
    congr 1
    exact propext ⟨fun h => by omega, fun h => by omega⟩
  · intro n b rest hn hx hd ih
    refine ev_shift ?_
    simp only [spec_l1Key_h2_eq, bt_nat hx, wrap_nat (show n < 9223372036854775807 by omega), ev_ite_iff, ev_some_iff, ev_none_iff, List.all_cons]
    rw [if_pos (by omega), if_pos (by omega), if_pos (by omega)]
    cases hp : keyByte b with
    | true =>
      simp only [Bool.true_and]
      simp only [keyByte, Bool.or_eq_true, Bool.and_eq_true, decide_eq_true_eq] at hp
      split
      · split
        · exact ih
        · rw [if_pos (by omega), if_neg (by omega)]; exact ih
      · rw [if_pos (by omega), if_neg (by omega)]; exact ih
    | false =>
      simp only [keyByte, Bool.or_eq_false_iff, Bool.and_eq_false_iff, decide_eq_false_iff_not] at hp
      simp only [Bool.false_and]
      split
      · rw [if_neg (by omega)]
        split
        · rw [if_pos (by omega)]; trivial
        · trivial
      · split
        · rw [if_pos (by omega)]; trivial
        · trivial

/-! ### op -/
abbrev OpT := Int × Int × ByteArray
abbrev OpK : Kind := .struct (.pair (.int .i64) (.pair (.int .i64) .str))
def szokOp (x : OpT) : Prop := x.2.2.size ≤ 140737488351232
def szBOp (x : OpT) : Prop := x.2.2.size ≤ 1048576
theorem szOp_ev (x : OpT) (hx : szokOp x) (a : Int) (h0 : 0 ≤ a) (h1 : a ≤ 1048576) : ∃ v, Ev (fun k => laws_szOp k x a) v ∧ v ≤ a ∧ (0 ≤ v → szBOp x) := by
  unfold szokOp at hx
  have w : wrap64 (a - (x.2.2.size : Int)) = a - x.2.2.size := wrap_of (by omega) (by omega)
  by_cases h : a - (x.2.2.size : Int) < 0
  · exact ⟨-1, ev_congr (fun k => by rw [laws_szOp_eq, w, if_pos h]) (ev_some _), by omega, fun h => by omega⟩
  · exact ⟨_, ev_congr (fun k => by rw [laws_szOp_eq, w, if_neg h]) (ev_some _), by omega, fun _ => by unfold szBOp; omega⟩
theorem toOp_ev (x : OpT) : Ev (fun k => laws_toOp k x) x := ev_congr (fun k => laws_toOp_eq k x) (ev_some x)
theorem eqOp_ev (x : OpT) : Ev (fun k => laws_eqOp k x x) true := ev_congr (fun k => laws_eqOp_eq k x x) (by simp [ev_some_iff])
theorem szOpS_ev (l) (hl : l.length ≤ 140737488355328) (hk : ∀ x ∈ l, szokOp x) (a : Int) (h0 : 0 ≤ a) (h1 : a ≤ 1048576) : ∃ v, Ev (fun k => laws_szOpS k l a) v ∧ v ≤ a ∧ (0 ≤ v → l.length ≤ 1048576 ∧ ∀ x ∈ l, szBOp x) :=
  sz_top (fun k l a => laws_szOpS_eq k l a) (sz_row (fun k l a i => laws_szOpS_h5_eq k l a i) (fun x hx a h0 h1 => szOp_ev x (hk x hx) a h0 h1) (by omega)) hl a h0 h1
theorem toOpS_ev (l) (hl : l.length ≤ 1048576) : Ev (fun k => laws_toOpS k l) l := by
  refine ev_congr (fun k => laws_toOpS_eq k l) ?_
  simp only [ev_ite_iff]
  rw [if_pos trivial, if_pos (by omega)]
  simpa using to_row (l := l) (cv := id) (z := _) (fun k l r i => laws_toOpS_h3_eq k l r i) (fun x _ => toOp_ev x) (by omega)
theorem eqOpS_ev (l) (hl : l.length ≤ 140737488355328) : Ev (fun k => laws_eqOpS k l l) true := by
  refine ev_congr (fun k => laws_eqOpS_eq k l l) ?_
  simp only [ev_ite_iff]
  rw [if_neg (by simp)]
  exact eq_row (l := l) (fun k a b i => laws_eqOpS_h4_eq k a b i) (fun x _ => eqOp_ev x) (by omega)

/-! ### ops -/
def opOk (o : OpT) : Bool := decide (1 ≤ o.1 ∧ o.1 ≤ 3) && (decide (1 ≤ o.2.1 ∧ o.2.1 ≤ 8) && (if o.1 = 3 then decide (o.2.2 = ByteArray.mk (Array.mk [])) else keyB o.2.2))
def sameT (o x : OpT) : Bool := decide (x.2.1 = o.2.1)
def doneT (o x : OpT) : Bool := decide (x.2.1 = o.2.1) && decide (x.1 = 3)
def condT (o : OpT) (later done : Bool) : Bool := if o.1 = 3 then !later else done
def opsFrom : List OpT → Bool
  | [] => true
  | o :: r => opOk o && (condT o (r.any (sameT o)) (r.any (doneT o)) && opsFrom r)
def opsB (l : List OpT) : Bool := decide (l.length ≤ 60) && opsFrom l
theorem keyB_empty {s : ByteArray} (h : s = ByteArray.mk (Array.mk [])) : keyB s = false := by
  subst h
  rfl
def runI (ov se : List Bool) : List OpT → Bool
  | [] => se == ov
  | o :: r => opOk o && (!(ov.getD o.2.1.toNat false) && runI (ov.set o.2.1.toNat (o.1 == 3)) (se.set o.2.1.toNat true) r)
theorem opOk_txn {o : OpT} (h : opOk o = true) : 1 ≤ o.2.1 ∧ o.2.1 ≤ 8 := by
  simp only [opOk, Bool.and_eq_true, decide_eq_true_eq] at h
  exact h.2.1
theorem getD_set (l : List Bool) (n m : Nat) (b : Bool) (hn : n < l.length) : (l.set n b).getD m false = if m = n then b else l.getD m false := by
  by_cases h : m = n
  · subst h; simp [hn]
  · rw [if_neg h]
    simp only [List.getD_eq_getElem?_getD]
    rw [List.getElem?_set_ne (by omega)]
theorem runI_iff : ∀ (r : List OpT) (ov se : List Bool), ov.length = 9 → se.length = 9 → (∀ n, ov.getD n false = true → se.getD n false = true) →
    (runI ov se r = true ↔ opsFrom r = true ∧ ∀ n, n < 9 → ((ov.getD n false = true → ∀ o ∈ r, o.2.1.toNat ≠ n) ∧ (se.getD n false = true → ov.getD n false = false → ∃ o ∈ r, o.2.1.toNat = n ∧ o.1 = 3)))
  | [], ov, se, ho, hs, hle => by
    simp only [runI, opsFrom, beq_iff_eq, true_and]
    constructor
    · rintro rfl n _
      exact ⟨fun _ o h => (by cases h), fun h1 h2 => (by rw [h1] at h2; cases h2)⟩
    · intro h
      apply List.ext_getElem?
      intro n
      by_cases hn : n < 9
      · obtain ⟨_, h2⟩ := h n hn
        have hl := hle n
        simp only [List.getD_eq_getElem?_getD] at h2 hl
        rw [List.getElem?_eq_getElem (by omega), List.getElem?_eq_getElem (by omega)] at *
        simp only [Option.getD_some] at h2 hl
        congr 1
        cases e1 : ov[n] with
        | true => exact hl e1
        | false =>
          cases e2 : se[n] with
          | false => rfl
          | true => obtain ⟨o, h, _⟩ := h2 e2 e1; cases h
      · rw [List.getElem?_eq_none (by omega), List.getElem?_eq_none (by omega)]
  | o :: r, ov, se, ho, hs, hle => by
    simp only [runI, opsFrom, Bool.and_eq_true, Bool.not_eq_true']
    by_cases hok : opOk o = true
    · have ht := opOk_txn hok
      have hT : o.2.1.toNat < 9 := by omega
      have ih := runI_iff r (ov.set o.2.1.toNat (o.1 == 3)) (se.set o.2.1.toNat true) (by simpa using ho) (by simpa using hs) (fun n => by
        rw [getD_set ov _ _ _ (by omega), getD_set se _ _ _ (by omega)]
        split
        · intro _; rfl
        · exact hle n)
      rw [ih]
      have eqv : ∀ x : OpT, x.2.1 = o.2.1 ↔ x.2.1.toNat = o.2.1.toNat := fun x => ⟨fun e => by rw [e], fun e => by omega⟩
      have hcond : condT o (r.any (sameT o)) (r.any (doneT o)) = true ↔ ((o.1 = 3 → ∀ x ∈ r, x.2.1.toNat ≠ o.2.1.toNat) ∧ (¬ o.1 = 3 → ∃ x ∈ r, x.2.1.toNat = o.2.1.toNat ∧ x.1 = 3)) := by
        unfold condT
        by_cases h3 : o.1 = 3
        · simp only [if_pos h3, Bool.not_eq_true', List.any_eq_false, sameT, decide_eq_true_eq, eqv]
          constructor
          · intro h; exact ⟨fun _ => h, fun n => absurd h3 n⟩
          · intro h; exact h.1 h3
        · simp only [if_neg h3, List.any_eq_true, doneT, Bool.and_eq_true, decide_eq_true_eq, eqv]
          constructor
          · intro h; exact ⟨fun n => absurd n h3, fun _ => h⟩
          · intro h; exact h.2 h3
      rw [hcond]
      constructor
      · rintro ⟨_, hov, hf, hall⟩
        obtain ⟨t1, t2⟩ := hall o.2.1.toNat hT
        rw [getD_set ov _ _ _ (by omega), getD_set se _ _ _ (by omega), if_pos rfl, if_pos rfl] at t2
        rw [getD_set ov _ _ _ (by omega), if_pos rfl] at t1
        refine ⟨⟨hok, ⟨fun h3 => t1 (by simp [h3]), fun h3 => t2 rfl (by simp [h3])⟩, hf⟩, fun n hn => ?_⟩
        by_cases hne : n = o.2.1.toNat
        · subst hne
          refine ⟨fun h => (by rw [hov] at h; cases h), fun _ _ => ?_⟩
          by_cases h3 : o.1 = 3
          · exact ⟨o, List.mem_cons_self, rfl, h3⟩
          · obtain ⟨x, hx, hx2⟩ := t2 rfl (by simp [h3])
            exact ⟨x, List.mem_cons_of_mem _ hx, hx2⟩
        · obtain ⟨s1, s2⟩ := hall n hn
          rw [getD_set ov _ _ _ (by omega), if_neg hne] at s1 s2
          rw [getD_set se _ _ _ (by omega), if_neg hne] at s2
          refine ⟨fun h x hx => ?_, fun h1 h2 => ?_⟩
          · rcases List.mem_cons.1 hx with rfl | hx
            · exact fun e => hne e.symm
            · exact s1 h x hx
          · obtain ⟨x, hx, hx2⟩ := s2 h1 h2
            exact ⟨x, List.mem_cons_of_mem _ hx, hx2⟩
      · rintro ⟨⟨_, ⟨c1, c2⟩, hf⟩, hall⟩
        obtain ⟨t1, t2⟩ := hall o.2.1.toNat hT
        have hov : ov.getD o.2.1.toNat false = false := by
          cases h : ov.getD o.2.1.toNat false with
          | false => rfl
          | true => exact absurd rfl (t1 h o List.mem_cons_self)
        refine ⟨hok, hov, hf, fun n hn => ?_⟩
        rw [getD_set ov _ _ _ (by omega), getD_set se _ _ _ (by omega)]
        by_cases hne : n = o.2.1.toNat
        · subst hne
          simp only [if_true]
          refine ⟨fun h => c1 (by simpa using h), fun _ h => c2 (by simpa using h)⟩
        · simp only [if_neg hne]
          obtain ⟨s1, s2⟩ := hall n hn
          refine ⟨fun h x hx => s1 h x (List.mem_cons_of_mem _ hx), fun h1 h2 => ?_⟩
          obtain ⟨x, hx, hx2⟩ := s2 h1 h2
          rcases List.mem_cons.1 hx with rfl | hx
          · exact absurd hx2.1.symm hne
          · exact ⟨x, hx, hx2⟩
    · simp [hok]
theorem runI_start (l : List OpT) : runI (List.replicate 9 false) (List.replicate 9 false) l = opsFrom l := by
  have z : ∀ n, (List.replicate 9 false).getD n false = false := by
    intro n
    simp only [List.getD_eq_getElem?_getD, List.getElem?_replicate]
    split <;> rfl
  rw [Bool.eq_iff_iff, runI_iff l _ _ (by simp) (by simp) (fun n h => h)]
  simp only [z]
  simp

def sizesO (l : List OpT) : Prop := ∀ y ∈ l, y.2.2.size ≤ 140737488351232
theorem specOps_ev (l : List OpT) (hl : l.length ≤ 1048576) (hk : sizesO l) : Ev (fun k => spec_GoodOps k l) (opsB l) := by
  have key := drop_ind0 l (fun n rest => Ev (fun k => spec_GoodOps_h4 k l l (l.length : Int) (n : Int)) (opsFrom rest)) ?_ ?_
  · refine ev_congr (fun k => spec_GoodOps_eq k l) ?_
    unfold opsB
    simp only [ev_ite_iff, ev_some_iff]
    by_cases h60 : l.length ≤ 60
    · rw [if_neg (by omega)]
      simpa [h60] using key
    · rw [if_pos (by omega)]
      simp [h60]
  · exact ev_last (fun k => by rw [spec_GoodOps_h4_eq, if_neg (by omega)]; rfl)
  · intro n o rest hn ho hd ih
    have s1 := hk o (List.mem_of_getElem? ho)
    have hrest := drop_next hd
    have hno : opsFrom (o :: rest) = (opOk o && (condT o (rest.any (sameT o)) (rest.any (doneT o)) && opsFrom rest)) := rfl
    have hlr : rest.length ≤ l.length := by rw [← hrest]; simp
    have inner : Ev (fun k => spec_GoodOps_h11 k l o false false l (l.length : Int) (n : Int) rest (rest.length : Int) 0) (condT o (rest.any (sameT o)) (rest.any (doneT o)) && opsFrom rest) := by
      have key2 := drop_ind0 rest (fun j rs => ∀ a b : Bool, Ev (fun k => spec_GoodOps_h11 k l o a b l (l.length : Int) (n : Int) rest (rest.length : Int) (j : Int)) (condT o (a || rs.any (sameT o)) (b || rs.any (doneT o)) && opsFrom rest)) ?_ ?_
      · simpa using key2 false false
      · intro a b
        refine ev_shift ?_
        simp only [spec_GoodOps_h11_eq, wrap_nat (show n < 9223372036854775807 by omega), ev_ite_iff, ev_some_iff]
        rw [if_neg (by omega)]
        simp only [List.any_nil, Bool.or_false, condT]
        by_cases h3 : o.1 = 3
        · cases a <;> simpa [h3] using ih
        · cases b <;> simpa [h3] using ih
      · intro j x rs hj hx _ ih2 a b
        have H := ih2 (a || decide (x.2.1 = o.2.1)) (b || (decide (x.2.1 = o.2.1) && decide (x.1 = 3)))
        have e1 : (a || decide (x.2.1 = o.2.1) || rs.any (sameT o)) = (a || (x :: rs).any (sameT o)) := by simp [sameT, Bool.or_assoc]
        have e2 : (b || (decide (x.2.1 = o.2.1) && decide (x.1 = 3)) || rs.any (doneT o)) = (b || (x :: rs).any (doneT o)) := by simp [doneT, Bool.or_assoc]
        rw [e1, e2] at H
        refine ev_shift ?_
        simp only [spec_GoodOps_h11_eq, rdT_get (e := OpK) hx, wrap_nat (show j < 9223372036854775807 by omega), ev_ite_iff, ev_none_iff]
        rw [if_pos (by omega), if_pos (by omega), if_pos (by omega)]
        by_cases h1 : x.2.1 = o.2.1 <;> cases a <;> cases b <;> simpa [h1] using H
    refine ev_shift ?_
    simp only [spec_GoodOps_h4_eq, rdT_get (e := OpK) ho, wrap_nat (show n < 9223372036854775807 by omega), Int.toNat_natCast, List.take_length, hrest, ev_ite_iff, ev_bind_iff (l1In_ev _ _ _), ev_bind_iff (l1Key_ev o.2.2 (by omega)), ev_some_iff, ev_none_iff]
    rw [if_pos (by omega), if_pos (by omega), if_pos (by omega), hno, if_pos (show (0 : Int) ≤ ((n + 1 : Nat) : Int) by omega), if_pos (show ((n + 1 : Nat) : Int) ≤ (l.length : Int) by omega)]
    unfold opOk
    by_cases b0 : 1 ≤ o.1 ∧ o.1 ≤ 3
    · by_cases b1 : 1 ≤ o.2.1 ∧ o.2.1 ≤ 8
      · by_cases b2 : o.2.2 = ByteArray.mk (Array.mk [])
        · by_cases b3 : o.1 = 3
          · simpa [b0, b1, b2, b3] using inner
          · simp [b0, b1, b3, b2, show keyB (ByteArray.mk (Array.mk [])) = false from rfl]
        · by_cases b3 : o.1 = 3
          · simp [b0, b1, b2, b3]
          · cases b4 : keyB o.2.2 with
            | true => simpa [b0, b1, b2, b3, b4] using inner
            | false => simp [b0, b1, b2, b3, b4]
      · simp [b0, b1]
    · simp [b0]
theorem eqL_bool : ∀ {a b : List Bool}, eqL (fun x y => decide (x = y)) a b = (a == b)
  | [], [] => rfl
  | [], _ :: _ => rfl
  | _ :: _, [] => rfl
  | x :: a, y :: b => by simp only [eqL, eqL_bool (a := a) (b := b)]; cases x <;> cases y <;> simp
theorem implOps_ev (l : List OpT) (hl : l.length ≤ 1048576) (hk : sizesO l) : Ev (fun k => impl_areOps k l) (opsB l) := by
  have key := drop_ind0 l (fun n rest => ∀ ov se : List Bool, ov.length = 9 → se.length = 9 → Ev (fun k => impl_areOps_h4 k l ov se l (l.length : Int) (n : Int)) (decide (l.length ≤ 60) && runI ov se rest)) ?_ ?_
  · refine ev_congr (fun k => impl_areOps_eq k l) ?_
    have := key (List.replicate 9 false) (List.replicate 9 false) (by simp) (by simp)
    rw [runI_start] at this
    exact this
  · intro ov se ho hs
    refine ev_shift ?_
    simp only [impl_areOps_h4_eq, ev_ite_iff, ev_some_iff]
    rw [if_neg (by omega), eqL_bool]
    by_cases h60 : l.length ≤ 60
    · rw [if_pos (by omega)]; simp [h60, runI]
    · rw [if_neg (by omega)]; simp [h60]
  · intro n o rest hn ho _ ih ov se hov hse
    have s1 := hk o (List.mem_of_getElem? ho)
    have hno : runI ov se (o :: rest) = (opOk o && (!(ov.getD o.2.1.toNat false) && runI (ov.set o.2.1.toNat (o.1 == 3)) (se.set o.2.1.toNat true) rest)) := rfl
    have H := ih (ov.set o.2.1.toNat (o.1 == 3)) (se.set o.2.1.toNat true) (by simpa using hov) (by simpa using hse)
    have e3 : decide (o.1 = 3) = (o.1 == 3) := by by_cases h : o.1 = 3 <;> simp [h]
    refine ev_shift ?_
    simp only [impl_areOps_h4_eq, rdT_get (e := OpK) ho, wrap_nat (show n < 9223372036854775807 by omega), ev_ite_iff, ev_bind_iff (in_ev _ _ _), ev_bind_iff (isKey_ev _), ev_some_iff, ev_none_iff, e3]
    obtain ⟨q, hq⟩ : ∃ q, ov.getD o.2.1.toNat false = q := ⟨_, rfl⟩
    rw [if_pos (by omega), if_pos (by omega), if_pos (by omega), hno, hq]
    unfold opOk
    by_cases b0 : 1 ≤ o.1 ∧ o.1 ≤ 3
    · by_cases b1 : 1 ≤ o.2.1 ∧ o.2.1 ≤ 8
      · have c1 : (0 : Int) ≤ o.2.1 := by omega
        have c2 : o.2.1 < 9 := by omega
        have e4 : rdT .bool ov o.2.1 = q := hq
        by_cases b3 : o.1 = 3
        · by_cases b2 : o.2.2 = ByteArray.mk (Array.mk [])
          · cases q <;> simp [b0, b1, b3, b2, c1, c2, e4] at H ⊢ <;> exact H
          · cases q <;> simp [b0, b1, b3, b2, c1, c2, e4]
        · cases b4 : keyB o.2.2 <;> cases q <;> simp [b0, b1, b3, b4, c1, c2, e4] at H ⊢ <;> exact H
      · simp [b0, b1]
    · simp [b0]

/-! ### int -/
theorem toIntS_ev (l) (hl : l.length ≤ 1048576) : Ev (fun k => laws_toIntS k l) l := by
  refine ev_congr (fun k => laws_toIntS_eq k l) ?_
  simp only [ev_ite_iff]
  rw [if_pos trivial, if_pos (by omega)]
  simpa using to_row0 (e := .int .i64) (l := l) (z := _) (fun k l r i => laws_toIntS_h3_eq k l r i) (by omega)
theorem eqIntS_ev (l) (hl : l.length ≤ 140737488355328) : Ev (fun k => laws_eqIntS k l l) true := by
  refine ev_congr (fun k => laws_eqIntS_eq k l l) ?_
  simp only [ev_ite_iff]
  rw [if_neg (by simp)]
  exact eq_row0 (e := .int .i64) (l := l) (c := fun x y => x = y) (fun k a b i => laws_eqIntS_h4_eq k a b i) (fun x => rfl) (by omega)

/-! ### twoplain -/
abbrev TriT := Int × OpT × Int
abbrev SpT := Int × ByteArray × Int × Int × Bool
def nilS : ByteArray := ByteArray.mk (Array.mk [])
def zipFrom : Nat → List OpT → List Int → List TriT
  | n, o :: l, k :: ks => ((n : Int), o, k) :: zipFrom (n + 1) l ks
  | _, _, _ => []
def hitB (txn : Int) (key : ByteArray) (e : TriT) : Bool := decide (e.2.1.2.1 = txn) && decide (e.2.1.2.2 = key)
def hStep (txn : Int) (key : ByteArray) (s : Int × Int × Bool) (e : TriT) : Int × Int × Bool :=
  if hitB txn key e = true then (if s.1 < 0 then e.1 else s.1, if s.2.1 < e.2.2 then e.2.2 else s.2.1, s.2.2 || decide (e.2.1.1 = 2)) else s
def holdZ (z : List TriT) (txn : Int) (key : ByteArray) : Int × Int × Bool := z.foldl (hStep txn key) (-1, -1, false)
def chkE (n : Int) (e : TriT) : Bool := if e.2.1.1 = 3 then decide (e.2.2 = 0) else decide (e.1 ≤ e.2.2 ∧ e.2.2 ≤ n - 1)
def violP (a b : OpT) (i : Int) (y x : Int × Int × Bool) : Bool :=
  decide (b.2.2 ≠ nilS) && ((decide (b.2.1 ≠ a.2.1) && decide (b.2.2 = a.2.2) && (y.2.2 || x.2.2) && decide (y.1 ≤ x.2.1) && decide (x.1 ≤ y.2.1)) || (decide (b.2.1 = a.2.1) && decide (y.1 = i) && decide (y.2.1 < x.1)))
def violZ (z : List TriT) (a b : TriT) : Bool := violP a.2.1 b.2.1 a.1 (holdZ z a.2.1.2.1 a.2.1.2.2) (holdZ z b.2.1.2.1 b.2.1.2.2)
def specV (z : List TriT) : Bool := z.any fun a => decide (a.2.1.2.2 ≠ nilS) && z.any (violZ z a)
def upS (e : TriT) (s : SpT) : SpT := (s.1, s.2.1, s.2.2.1, (if s.2.2.2.1 < e.2.2 then e.2.2 else s.2.2.2.1), s.2.2.2.2 || decide (e.2.1.1 = 2))
def newS (e : TriT) : SpT := (e.2.1.2.1, e.2.1.2.2, e.1, 0, false)
def sameS' (e : TriT) (s : SpT) : Bool := decide (s.1 = e.2.1.2.1) && decide (s.2.1 = e.2.1.2.2)
def addTo (e : TriT) : List SpT → List SpT
  | [] => [upS e (newS e)]
  | s :: S => if sameS' e s = true then upS e s :: S else s :: addTo e S
def spansZ (z : List TriT) : List SpT := z.foldl (fun S e => if e.2.1.1 = 3 then S else addTo e S) []
def violS (s t : SpT) : Bool :=
  (decide (s.2.1 = t.2.1) && decide (s.2.2.1 ≤ t.2.2.2.1) && decide (t.2.2.1 ≤ s.2.2.2.1) && (s.2.2.2.2 || t.2.2.2.2) && decide (s.1 ≠ t.1)) || (decide (s.1 = t.1) && decide (t.2.2.2.1 < s.2.2.1))
def spanOf (z : List TriT) (txn : Int) (key : ByteArray) : SpT := (txn, key, (holdZ z txn key).1, (holdZ z txn key).2.1, (holdZ z txn key).2.2)
theorem hold_none {z : List TriT} {txn : Int} {key : ByteArray} : (∀ e ∈ z, hitB txn key e = false) → ∀ s, z.foldl (hStep txn key) s = s := by
  induction z with
  | nil => intro _ s; rfl
  | cons e z ih =>
    intro h s
    rw [List.foldl_cons, show hStep txn key s e = s by simp [hStep, h e List.mem_cons_self]]
    exact ih (fun e he => h e (List.mem_cons_of_mem _ he)) s
theorem hold_snoc (z : List TriT) (e : TriT) (txn : Int) (key : ByteArray) : holdZ (z ++ [e]) txn key = hStep txn key (holdZ z txn key) e := by simp [holdZ, List.foldl_append]
theorem spans_snoc (z : List TriT) (e : TriT) : spansZ (z ++ [e]) = if e.2.1.1 = 3 then spansZ z else addTo e (spansZ z) := by simp [spansZ, List.foldl_append]
/-- what is known of the elements -/
def OkZ (z : List TriT) : Prop := ∀ e ∈ z, 0 ≤ e.1 ∧ (e.2.1.1 ≠ 3 → e.1 ≤ e.2.2) ∧ (e.2.1.1 = 3 ↔ e.2.1.2.2 = nilS)
theorem hold_pos {txn : Int} {key : ByteArray} (hk : key ≠ nilS) : ∀ (z : List TriT), OkZ z → (∃ e ∈ z, hitB txn key e = true) → 0 ≤ (holdZ z txn key).1 ∧ (holdZ z txn key).1 ≤ (holdZ z txn key).2.1 := by
  intro z
  induction z using snoc_ind with
  | nil => rintro _ ⟨e, he, _⟩; cases he
  | snoc z e ih =>
    intro hz hex
    have hz' : OkZ z := fun x hx => hz x (List.mem_append_left _ hx)
    obtain ⟨g1, g2, g3⟩ := hz e (by simp)
    rw [hold_snoc]
    by_cases hh : hitB txn key e = true
    · have h3 : e.2.1.1 ≠ 3 := by
        intro h
        simp only [hitB, Bool.and_eq_true, decide_eq_true_eq] at hh
        exact hk (hh.2 ▸ g3.1 h)
      have g2 := g2 h3
      by_cases hp : ∃ x ∈ z, hitB txn key x = true
      · obtain ⟨i1, i2⟩ := ih hz' hp
        simp only [hStep, if_pos hh]
        rw [if_neg (by omega)]
        refine ⟨i1, ?_⟩
        split <;> omega
      · have hn : ∀ x ∈ z, hitB txn key x = false := fun x hx => by
          cases hb : hitB txn key x with
          | false => rfl
          | true => exact absurd ⟨x, hx, hb⟩ hp
        rw [show holdZ z txn key = (-1, -1, false) from hold_none hn _]
        simp only [hStep, if_pos hh]
        rw [if_pos (by omega), if_pos (by omega)]
        exact ⟨g1, g2⟩
    · obtain ⟨x, hx, hb⟩ := hex
      rcases List.mem_append.1 hx with hx | hx
      · simp only [hStep, if_neg hh]
        exact ih hz' ⟨x, hx, hb⟩
      · have := List.mem_singleton.1 hx
        subst this
        exact absurd hb hh
def keysApart (S : List SpT) : Prop := S.Pairwise fun s t => ¬ (s.1 = t.1 ∧ s.2.1 = t.2.1)
theorem mem_addTo {e : TriT} {s' : SpT} : ∀ {S : List SpT}, keysApart S → (s' ∈ addTo e S ↔ (s' ∈ S ∧ sameS' e s' = false) ∨ s' = upS e ((S.find? (sameS' e)).getD (newS e)))
  | [], _ => by simp [addTo]
  | s :: S, hp => by
    obtain ⟨h1, h2⟩ := List.pairwise_cons.1 hp
    unfold addTo
    by_cases hs : sameS' e s = true
    · rw [if_pos hs]
      simp only [List.mem_cons, List.find?_cons, hs, Option.getD_some]
      constructor
      · rintro (h | h)
        · exact .inr h
        · refine .inl ⟨.inr h, ?_⟩
          cases hb : sameS' e s' with
          | false => rfl
          | true =>
            simp only [sameS', Bool.and_eq_true, decide_eq_true_eq] at hb hs
            exact absurd ⟨hs.1.trans hb.1.symm, hs.2.trans hb.2.symm⟩ (h1 s' h)
      · rintro (⟨h | h, hb⟩ | h)
        · subst h; rw [hs] at hb; cases hb
        · exact .inr h
        · exact .inl h
    · rw [if_neg hs]
      have hs' : sameS' e s = false := by simpa using hs
      simp only [List.mem_cons, List.find?_cons, hs', mem_addTo h2]
      constructor
      · rintro (h | h | h)
        · subst h; exact .inl ⟨.inl rfl, hs'⟩
        · exact .inl ⟨.inr h.1, h.2⟩
        · exact .inr h
      · rintro (⟨h | h, hb⟩ | h)
        · exact .inl h
        · exact .inr (.inl ⟨h, hb⟩)
        · exact .inr (.inr h)
theorem addTo_apart {e : TriT} : ∀ {S : List SpT}, keysApart S → keysApart (addTo e S)
  | [], _ => by simp [addTo, keysApart]
  | s :: S, hp => by
    obtain ⟨h1, h2⟩ := List.pairwise_cons.1 hp
    unfold addTo
    by_cases hs : sameS' e s = true
    · rw [if_pos hs]
      exact List.pairwise_cons.2 ⟨fun t ht => by simpa [upS] using h1 t ht, h2⟩
    · rw [if_neg hs]
      refine List.pairwise_cons.2 ⟨fun t ht => ?_, addTo_apart h2⟩
      rcases (mem_addTo h2).1 ht with ⟨h, _⟩ | h
      · exact h1 t h
      · subst h
        cases hf : S.find? (sameS' e) with
        | none =>
          simp only [Option.getD_none, upS, newS]
          rintro ⟨a, b⟩
          exact hs (by simp [sameS', a, b])
        | some u =>
          simp only [Option.getD_some, upS]
          exact h1 u (List.mem_of_find?_eq_some hf)
structure InvZ (z : List TriT) (S : List SpT) : Prop where
  spans : ∀ s ∈ S, s = spanOf z s.1 s.2.1 ∧ ∃ e ∈ z, e.2.1.1 ≠ 3 ∧ hitB s.1 s.2.1 e = true
  all : ∀ e ∈ z, e.2.1.1 ≠ 3 → ∃ s ∈ S, s.1 = e.2.1.2.1 ∧ s.2.1 = e.2.1.2.2
  apart : keysApart S
theorem inv_spans : ∀ (z : List TriT), OkZ z → InvZ z (spansZ z) := by
  intro z
  induction z using snoc_ind with
  | nil => intro _; exact ⟨fun s hs => by simp [spansZ] at hs, fun e he => by simp at he, by simp [spansZ, keysApart]⟩
  | snoc z e ih =>
    intro hz
    have hz' : OkZ z := fun x hx => hz x (List.mem_append_left _ hx)
    obtain ⟨g1, g2, g3⟩ := hz e (by simp)
    obtain ⟨i1, i2, i3⟩ := ih hz'
    have keep : ∀ s ∈ spansZ z, hitB s.1 s.2.1 e = false → s = spanOf (z ++ [e]) s.1 s.2.1 ∧ ∃ x ∈ z ++ [e], x.2.1.1 ≠ 3 ∧ hitB s.1 s.2.1 x = true := by
      intro s hs hh
      obtain ⟨a, x, hx, b, c⟩ := i1 s hs
      refine ⟨?_, x, List.mem_append_left _ hx, b, c⟩
      rw [a]
      simp [spanOf, hold_snoc, hStep, hh]
    rw [spans_snoc]
    by_cases h3 : e.2.1.1 = 3
    · rw [if_pos h3]
      refine ⟨fun s hs => keep s hs ?_, fun x hx hx3 => ?_, i3⟩
      · cases hb : hitB s.1 s.2.1 e with
        | false => rfl
        | true =>
          obtain ⟨_, x, hx, b, c⟩ := i1 s hs
          simp only [hitB, Bool.and_eq_true, decide_eq_true_eq] at hb c
          exact absurd ((hz' x hx).2.2.2 (by rw [c.2, ← hb.2]; exact g3.1 h3)) b
      · rcases List.mem_append.1 hx with hx | hx
        · exact i2 x hx hx3
        · have := List.mem_singleton.1 hx; subst this; exact absurd h3 hx3
    · rw [if_neg h3]
      have he0 : e.2.1.2.2 ≠ nilS := fun h => h3 (g3.2 h)
      have g2 := g2 h3
      have hit : hitB e.2.1.2.1 e.2.1.2.2 e = true := by simp [hitB]
      have hnew : upS e (((spansZ z).find? (sameS' e)).getD (newS e)) = spanOf (z ++ [e]) e.2.1.2.1 e.2.1.2.2 := by
        cases hf : (spansZ z).find? (sameS' e) with
        | some u =>
          have hu := List.mem_of_find?_eq_some hf
          have hm := List.find?_some hf
          simp only [sameS', Bool.and_eq_true, decide_eq_true_eq] at hm
          obtain ⟨a, x, hx, b, c⟩ := i1 u hu
          rw [hm.1, hm.2] at a c
          obtain ⟨p1, p2⟩ := hold_pos he0 z hz' ⟨x, hx, c⟩
          simp only [Option.getD_some, a, spanOf, upS, hold_snoc, hStep, hit, if_true]
          rw [if_neg (show ¬ (holdZ z e.2.1.2.1 e.2.1.2.2).1 < 0 by omega)]
        | none =>
          have hn : ∀ x ∈ z, hitB e.2.1.2.1 e.2.1.2.2 x = false := by
            intro x hx
            cases hb : hitB e.2.1.2.1 e.2.1.2.2 x with
            | false => rfl
            | true =>
              simp only [hitB, Bool.and_eq_true, decide_eq_true_eq] at hb
              have hx3 : x.2.1.1 ≠ 3 := fun h => he0 (by rw [← hb.2]; exact (hz' x hx).2.2.1 h)
              obtain ⟨s, hs, e1, e2⟩ := i2 x hx hx3
              have := List.find?_eq_none.1 hf s hs
              simp [sameS', e1, e2, hb] at this
          have h0 : holdZ z e.2.1.2.1 e.2.1.2.2 = (-1, -1, false) := hold_none hn _
          have e0 : upS e (newS e) = (e.2.1.2.1, e.2.1.2.2, e.1, e.2.2, decide (e.2.1.1 = 2)) := by
            have : (if (0 : Int) < e.2.2 then e.2.2 else 0) = e.2.2 := by split <;> omega
            show (e.2.1.2.1, e.2.1.2.2, e.1, (if (0 : Int) < e.2.2 then e.2.2 else 0), (false || decide (e.2.1.1 = 2))) = _
            rw [this, Bool.false_or]
          rw [Option.getD_none, e0]
          simp only [spanOf, hold_snoc, hStep, hit, if_true, h0, Bool.false_or]
          rw [if_pos (show (-1 : Int) < 0 by omega), if_pos (show (-1 : Int) < e.2.2 by omega)]
      have hkey := fun s' => mem_addTo (e := e) (s' := s') i3
      refine ⟨fun s hs => ?_, fun x hx hx3 => ?_, addTo_apart i3⟩
      · rcases (hkey s).1 hs with ⟨h, hb⟩ | h
        · refine keep s h ?_
          cases hh : hitB s.1 s.2.1 e with
          | false => rfl
          | true =>
            simp only [hitB, Bool.and_eq_true, decide_eq_true_eq] at hh
            simp [sameS', hh.1, hh.2] at hb
        · rw [hnew] at h
          subst h
          exact ⟨rfl, e, by simp, h3, hit⟩
      · have hin : ∃ s ∈ addTo e (spansZ z), s.1 = e.2.1.2.1 ∧ s.2.1 = e.2.1.2.2 := ⟨_, (hkey _).2 (.inr hnew.symm), rfl, rfl⟩
        rcases List.mem_append.1 hx with hx | hx
        · obtain ⟨s, hs, a, b⟩ := i2 x hx hx3
          by_cases hb : sameS' e s = true
          · simp only [sameS', Bool.and_eq_true, decide_eq_true_eq] at hb
            obtain ⟨s2, h2, c, d⟩ := hin
            exact ⟨s2, h2, by rw [c, ← a, hb.1], by rw [d, ← b, hb.2]⟩
          · exact ⟨s, (hkey s).2 (.inl ⟨hs, by simpa using hb⟩), a, b⟩
        · have := List.mem_singleton.1 hx; subst this; exact hin
theorem spans_le {z : List TriT} (hz : OkZ z) : ∀ s ∈ spansZ z, s.2.2.1 ≤ s.2.2.2.1 := by
  intro s hs
  obtain ⟨a, x, hx, b, c⟩ := (inv_spans z hz).spans s hs
  have hk : s.2.1 ≠ nilS := by
    simp only [hitB, Bool.and_eq_true, decide_eq_true_eq] at c
    intro h
    exact b ((hz x hx).2.2.2 (c.2.trans h))
  have := (hold_pos hk z hz ⟨x, hx, c⟩).2
  rw [a]; exact this
theorem viol_eq {z : List TriT} (hz : OkZ z) (hi : ∀ (a : TriT), a ∈ z → a.2.1.1 ≠ 3 → ∃ b ∈ z, b.2.1.1 ≠ 3 ∧ hitB a.2.1.2.1 a.2.1.2.2 b = true ∧ (holdZ z a.2.1.2.1 a.2.1.2.2).1 = b.1) :
    ((spansZ z).any fun s => (spansZ z).any (violS s)) = specV z := by
  have inv := inv_spans z hz
  rw [Bool.eq_iff_iff]
  simp only [List.any_eq_true, specV, Bool.and_eq_true, decide_eq_true_eq]
  constructor
  · rintro ⟨s, hs, t, ht, hv⟩
    obtain ⟨a1, x, hx, b1, c1⟩ := inv.spans s hs
    obtain ⟨a2, y, hy, b2, c2⟩ := inv.spans t ht
    have nx : x.2.1.2.2 ≠ nilS := fun h => b1 ((hz x hx).2.2.2 h)
    have ny : y.2.1.2.2 ≠ nilS := fun h => b2 ((hz y hy).2.2.2 h)
    simp only [hitB, Bool.and_eq_true, decide_eq_true_eq] at c1 c2
    rw [← c1.1, ← c1.2] at a1
    rw [← c2.1, ← c2.2] at a2
    simp only [violS, Bool.or_eq_true, Bool.and_eq_true, decide_eq_true_eq, a1, a2, spanOf] at hv
    rcases hv with ⟨⟨⟨⟨v1, v2⟩, v3⟩, v4⟩, v5⟩ | ⟨v1, v2⟩
    · exact ⟨x, hx, nx, y, hy, by simp only [violZ, violP, Bool.and_eq_true, Bool.or_eq_true, decide_eq_true_eq]; exact ⟨ny, .inl ⟨⟨⟨⟨fun h => v5 h.symm, v1.symm⟩, v4⟩, v2⟩, v3⟩⟩⟩
    · -- the one that began first stands for its span
      obtain ⟨w, hw, d1, d2, d3⟩ := hi y hy b2
      have d2' := d2
      simp only [hitB, Bool.and_eq_true, decide_eq_true_eq] at d2'
      have nw : w.2.1.2.2 ≠ nilS := fun h => d1 ((hz w hw).2.2.2 h)
      refine ⟨w, hw, nw, x, hx, ?_⟩
      simp only [violZ, violP, Bool.and_eq_true, Bool.or_eq_true, decide_eq_true_eq, d2'.1, d2'.2]
      exact ⟨nx, .inr ⟨⟨v1, d3⟩, v2⟩⟩
  · rintro ⟨a, ha, na, b, hb, hv⟩
    simp only [violZ, violP, Bool.and_eq_true, Bool.or_eq_true, decide_eq_true_eq] at hv
    obtain ⟨nb, hv⟩ := hv
    obtain ⟨s, hs, s1, s2⟩ := inv.all a ha (fun h => na ((hz a ha).2.2.1 h))
    obtain ⟨t, ht, t1, t2⟩ := inv.all b hb (fun h => nb ((hz b hb).2.2.1 h))
    have a1 := (inv.spans s hs).1
    have a2 := (inv.spans t ht).1
    rw [s1, s2] at a1
    rw [t1, t2] at a2
    rcases hv with ⟨⟨⟨⟨v1, v2⟩, v3⟩, v4⟩, v5⟩ | ⟨⟨v1, _⟩, v2⟩
    · exact ⟨s, hs, t, ht, by simp only [violS, Bool.or_eq_true, Bool.and_eq_true, decide_eq_true_eq, a1, a2, spanOf]; exact .inl ⟨⟨⟨⟨v2.symm, v4⟩, v5⟩, v3⟩, fun h => v1 h.symm⟩⟩
    · exact ⟨t, ht, s, hs, by simp only [violS, Bool.or_eq_true, Bool.and_eq_true, decide_eq_true_eq, a1, a2, spanOf]; exact .inr ⟨v1, v2⟩⟩
theorem hold_first {txn : Int} {key : ByteArray} (hk : key ≠ nilS) : ∀ (z : List TriT), OkZ z → (∃ e ∈ z, hitB txn key e = true) → ∃ b ∈ z, b.2.1.1 ≠ 3 ∧ hitB txn key b = true ∧ (holdZ z txn key).1 = b.1 := by
  intro z
  induction z using snoc_ind with
  | nil => rintro _ ⟨e, he, _⟩; cases he
  | snoc z e ih =>
    intro hz hex
    have hz' : OkZ z := fun x hx => hz x (List.mem_append_left _ hx)
    rw [hold_snoc]
    by_cases hp : ∃ x ∈ z, hitB txn key x = true
    · obtain ⟨b, hb, b1, b2, b3⟩ := ih hz' hp
      have h0 := (hold_pos hk z hz' hp).1
      refine ⟨b, List.mem_append_left _ hb, b1, b2, ?_⟩
      unfold hStep
      split
      · simp only; rw [if_neg (by omega)]; exact b3
      · exact b3
    · have hn : ∀ x ∈ z, hitB txn key x = false := fun x hx => by
        cases hb : hitB txn key x with
        | false => rfl
        | true => exact absurd ⟨x, hx, hb⟩ hp
      obtain ⟨x, hx, hb⟩ := hex
      rcases List.mem_append.1 hx with hx | hx
      · rw [hn x hx] at hb; cases hb
      · have := List.mem_singleton.1 hx
        subst this
        refine ⟨x, by simp, fun h => ?_, hb, ?_⟩
        · simp only [hitB, Bool.and_eq_true, decide_eq_true_eq] at hb
          exact hk (hb.2 ▸ (hz x (by simp)).2.2.1 h)
        · rw [show holdZ z txn key = (-1, -1, false) from hold_none hn _]
          simp [hStep, hb]

/-! ### twophase -/
abbrev SpK : Kind := .struct (.pair (.int .i64) (.pair .str (.pair (.int .i64) (.pair (.int .i64) .bool))))
theorem zip_cons {n : Nat} {l : List OpT} {locks : List Int} {o : OpT} {rest : List OpT} {k : Int} (hd : l.drop n = o :: rest) (hk : locks[n]? = some k) :
    zipFrom n (l.drop n) (locks.drop n) = ((n : Int), o, k) :: zipFrom (n + 1) rest (locks.drop (n + 1)) := by
  obtain ⟨hn, rfl⟩ := List.getElem?_eq_some_iff.1 hk
  rw [hd, List.drop_eq_getElem_cons hn]
  rfl
theorem getI {locks : List Int} {n : Nat} (h : n < locks.length) : ∃ k, locks[n]? = some k := ⟨_, List.getElem?_eq_getElem h⟩
section
variable (l : List OpT) (locks : List Int) (hlen : locks.length = l.length) (hl : l.length ≤ 1048576)
include hlen hl
theorem hold_ev (txn : Int) (key : ByteArray) : Ev (fun k => spec_l3Hold k l locks txn key) ((holdZ (zipFrom 0 l locks) txn key).1, (holdZ (zipFrom 0 l locks) txn key).2.1, (holdZ (zipFrom 0 l locks) txn key).2.2, decide (0 ≤ (holdZ (zipFrom 0 l locks) txn key).1)) := by
  have key := drop_ind0 l (fun n rest => ∀ f t w, Ev (fun k => spec_l3Hold_h5 k locks txn key f t w l (l.length : Int) (n : Int))
    (((zipFrom n rest (locks.drop n)).foldl (hStep txn key) (f, t, w)).1, ((zipFrom n rest (locks.drop n)).foldl (hStep txn key) (f, t, w)).2.1, ((zipFrom n rest (locks.drop n)).foldl (hStep txn key) (f, t, w)).2.2, decide (0 ≤ ((zipFrom n rest (locks.drop n)).foldl (hStep txn key) (f, t, w)).1))) ?_ ?_
  · refine ev_congr (fun k => spec_l3Hold_eq k l locks txn _) ?_
    exact key (-1) (-1) false
  · intro f t w
    refine ev_last fun k => ?_
    rw [spec_l3Hold_h5_eq, if_neg (by omega)]
    rfl
  · intro n o rest hn ho hd ih f t w
    obtain ⟨lk, hlk⟩ := getI (locks := locks) (n := n) (by omega)
    rw [← hd, zip_cons hd hlk, List.foldl_cons]
    have ih := ih (hStep txn key (f, t, w) ((n : Int), o, lk)).1 (hStep txn key (f, t, w) ((n : Int), o, lk)).2.1 (hStep txn key (f, t, w) ((n : Int), o, lk)).2.2
    refine ev_shift ?_
    simp only [spec_l3Hold_h5_eq, rdT_get (e := OpK) ho, wrap_nat (show n < 9223372036854775807 by omega), ev_ite_iff, ev_none_iff]
    rw [if_pos (by omega), if_pos (by omega), if_pos (by omega)]
    by_cases h1 : o.2.1 = txn
    · by_cases h2 : o.2.2 = key
      · have hh : hitB txn key ((n : Int), o, lk) = true := by simp [hitB, h1, h2]
        rw [if_neg (by simpa using h1), if_neg (by simpa using h2)]
        have last : ∀ f0 t0 res, Ev (fun k => spec_l3Hold_h5 k locks txn key f0 t0 (w || decide (o.1 = 2)) l (l.length : Int) ((n + 1 : Nat) : Int)) res → Ev (fun k => spec_l3Hold_h12 k locks txn key f0 t0 w o l (l.length : Int) (n : Int)) res := by
          intro f0 t0 res h
          refine ev_shift ?_
          simp only [spec_l3Hold_h12_eq, wrap_nat (show n < 9223372036854775807 by omega), ev_ite_iff]
          cases w
          · rw [if_neg (by simp)]; simpa using h
          · rw [if_pos rfl]; simpa using h
        have step : ∀ f0 res, Ev (fun k => spec_l3Hold_h5 k locks txn key f0 (if t < lk then lk else t) (w || decide (o.1 = 2)) l (l.length : Int) ((n + 1 : Nat) : Int)) res → Ev (fun k => spec_l3Hold_h10 k locks txn key f0 t w (n : Int) o l (l.length : Int) (n : Int)) res := by
          intro f0 res h
          refine ev_shift ?_
          simp only [spec_l3Hold_h10_eq, rdT_get (e := .int .i64) hlk, ev_ite_iff, ev_none_iff]
          rw [if_pos (by omega), if_pos (by omega)]
          by_cases ht : t < lk
          · rw [if_pos ht, if_pos (by omega), if_pos (by omega)]
            rw [if_pos ht] at h
            exact last f0 lk res h
          · rw [if_neg ht]
            rw [if_neg ht] at h
            exact last f0 t res h
        by_cases hf : f < 0
        · rw [if_pos hf]
          refine step n _ ?_
          simpa [hStep, hh, hf] using ih
        · rw [if_neg hf]
          refine step f _ ?_
          simpa [hStep, hh, hf] using ih
      · have hh : hitB txn key ((n : Int), o, lk) = false := by simp [hitB, h2]
        rw [if_neg (by simpa using h1), if_pos h2]
        simpa [hStep, hh] using ih
    · have hh : hitB txn key ((n : Int), o, lk) = false := by simp [hitB, h1]
      rw [if_pos h1]
      simpa [hStep, hh] using ih
theorem zip_get {n : Nat} {o : OpT} {lk : Int} (ho : l[n]? = some o) (hk : locks[n]? = some lk) : ((n : Int), o, lk) ∈ zipFrom 0 l locks := by
  have gen : ∀ (l : List OpT) (locks : List Int) (m n : Nat), l[n]? = some o → locks[n]? = some lk → (((m + n : Nat) : Int), o, lk) ∈ zipFrom m l locks := by
    intro l
    induction l with
    | nil => intro locks m n h _; simp at h
    | cons x l ih =>
      intro locks m n h h2
      cases locks with
      | nil => simp at h2
      | cons y locks =>
        cases n with
        | zero => simp at h h2; subst h h2; simp [zipFrom]
        | succ n =>
          simp at h h2
          refine List.mem_cons_of_mem _ ?_
          rw [show m + (n + 1) = m + 1 + n by omega]
          exact ih locks (m + 1) n h h2
  simpa using gen l locks 0 n ho hk
theorem inner_ev (a : OpT) (i : Nat) (lk : Int) (r : Bool × Bool) (hr : Ev (fun k => spec_IsTwoPhase_h10 k l locks l (l.length : Int) ((i + 1 : Nat) : Int)) r) (hi : i < l.length) (y : Int × Int × Bool) (hy : holdZ (zipFrom 0 l locks) a.2.1 a.2.2 = y) :
    Ev (fun k => spec_IsTwoPhase_h15 k l locks (i : Int) a y.1 y.2.1 y.2.2 l (l.length : Int) (i : Int) l (l.length : Int) 0)
      (cond ((zipFrom 0 l locks).any (violZ (zipFrom 0 l locks) ((i : Int), a, lk))) (false, true) r) := by
  have key := drop_ind0 l (fun n rest => Ev (fun k => spec_IsTwoPhase_h15 k l locks (i : Int) a y.1 y.2.1 y.2.2 l (l.length : Int) (i : Int) l (l.length : Int) (n : Int))
    (cond ((zipFrom n rest (locks.drop n)).any (violZ (zipFrom 0 l locks) ((i : Int), a, lk))) (false, true) r)) ?_ ?_
  · exact key
  · refine ev_shift ?_
    simp only [spec_IsTwoPhase_h15_eq, wrap_nat (show i < 9223372036854775807 by omega), ev_ite_iff]
    rw [if_neg (by omega)]
    simpa [zipFrom] using hr
  · intro n o rest hn ho hd ih
    obtain ⟨lk2, hlk⟩ := getI (locks := locks) (n := n) (by omega)
    obtain ⟨x, hx⟩ : ∃ x, holdZ (zipFrom 0 l locks) o.2.1 o.2.2 = x := ⟨_, rfl⟩
    have hev := hold_ev l locks hlen hl o.2.1 o.2.2
    rw [hx] at hev
    have hv : violZ (zipFrom 0 l locks) ((i : Int), a, lk) ((n : Int), o, lk2) = violP a o i y x := by
      show violP a o i (holdZ (zipFrom 0 l locks) a.2.1 a.2.2) (holdZ (zipFrom 0 l locks) o.2.1 o.2.2) = _
      rw [hx, hy]
    rw [← hd, zip_cons hd hlk, List.any_cons, hv]
    refine ev_shift ?_
    simp only [spec_IsTwoPhase_h15_eq, rdT_get (e := OpK) ho, wrap_nat (show n < 9223372036854775807 by omega), ev_ite_iff, ev_none_iff, ev_some_iff, ev_bind_iff hev]
    rw [if_pos (by omega), if_pos (by omega), if_pos (by omega)]
    generalize (zipFrom (n + 1) rest (locks.drop (n + 1))).any (violZ (zipFrom 0 l locks) ((i : Int), a, lk)) = q at ih ⊢
    by_cases h0 : o.2.2 = ByteArray.mk (Array.mk [])
    · rw [if_pos h0]
      simpa [h0, violP, nilS] using ih
    · rw [if_neg h0]
      obtain ⟨x1, x2, x3⟩ := x
      obtain ⟨y1, y2, y3⟩ := y
      simp only [violP, nilS]
      by_cases h1 : o.2.1 = a.2.1
      · by_cases h2 : y1 = i
        · by_cases h3 : y2 < x1
          · simp [h0, h1, h2, h3]
          · simpa [h0, h1, h2, h3] using ih
        · simpa [h0, h1, h2] using ih
      · by_cases h2 : o.2.2 = a.2.2
        · rw [h2] at h0
          by_cases h3 : y1 ≤ x2
          · by_cases h4 : x1 ≤ y2
            · cases x3 <;> cases y3 <;> first | (simp [h0, h1, h2, h3, h4]; done) | (simpa [h0, h1, h2, h3, h4] using ih)
            · cases x3 <;> cases y3 <;> simpa [h0, h1, h2, h3, h4] using ih
          · cases x3 <;> cases y3 <;> simpa [h0, h1, h2, h3] using ih
        · simpa [h0, h1, h2] using ih
theorem outer_ev : Ev (fun k => spec_IsTwoPhase_h10 k l locks l (l.length : Int) 0) (!specV (zipFrom 0 l locks), true) := by
  have key := drop_ind0 l (fun n rest => Ev (fun k => spec_IsTwoPhase_h10 k l locks l (l.length : Int) (n : Int))
    (!((zipFrom n rest (locks.drop n)).any fun a => decide (a.2.1.2.2 ≠ nilS) && (zipFrom 0 l locks).any (violZ (zipFrom 0 l locks) a)), true)) ?_ ?_
  · exact key
  · refine ev_last fun k => ?_
    rw [spec_IsTwoPhase_h10_eq, if_neg (by omega)]
    simp [zipFrom]
  · intro n o rest hn ho hd ih
    obtain ⟨lk, hlk⟩ := getI (locks := locks) (n := n) (by omega)
    rw [← hd, zip_cons hd hlk, List.any_cons]
    refine ev_shift ?_
    simp only [spec_IsTwoPhase_h10_eq, rdT_get (e := OpK) ho, wrap_nat (show n < 9223372036854775807 by omega), ev_ite_iff, ev_none_iff, ev_bind_iff (hold_ev l locks hlen hl _ _)]
    rw [if_pos (by omega), if_pos (by omega), if_pos (by omega)]
    by_cases h0 : o.2.2 = ByteArray.mk (Array.mk [])
    · rw [if_pos h0, show decide (o.2.2 ≠ nilS) = false by simp [h0, nilS]]
      exact ih
    · rw [if_neg h0, show decide (o.2.2 ≠ nilS) = true by simp [h0, nilS]]
      have h := inner_ev l locks hlen hl o n lk _ ih hn _ rfl
      cases hq : (zipFrom 0 l locks).any (violZ (zipFrom 0 l locks) ((n : Int), o, lk)) with
      | false => rw [hq] at h; exact h
      | true => rw [hq] at h; exact h
theorem chk_ev {r : Bool × Bool} {H : Nat → Int → Option (Bool × Bool)} {F : Nat → Int → Int → Int → Option Bool} (hF : ∀ n lo hi, Ev (fun k => F k n lo hi) (decide (lo ≤ n ∧ n ≤ hi)))
    (hend : (zipFrom 0 l locks).all (chkE (l.length : Int)) = true → Ev (fun k => H k (l.length : Int)) r)
    (hs : ∀ k (n : Nat) o lk, n < l.length → l[n]? = some o → locks[n]? = some lk → H (k + 1) (n : Int) = if o.1 = 3 then (if lk = 0 then H k ((n + 1 : Nat) : Int) else some (false, false)) else (F k lk (n : Int) ((l.length : Int) - 1)).bind fun t => if (!t) = true then some (false, false) else H k ((n + 1 : Nat) : Int)) :
    Ev (fun k => H k 0) (cond ((zipFrom 0 l locks).all (chkE (l.length : Int))) r (false, false)) := by
  have key := drop_ind0 l (fun n rest => (zipFrom n rest (locks.drop n)).all (chkE (l.length : Int)) = (zipFrom 0 l locks).all (chkE (l.length : Int)) → Ev (fun k => H k (n : Int)) (cond ((zipFrom 0 l locks).all (chkE (l.length : Int))) r (false, false))) ?_ ?_
  · exact key rfl
  · intro h
    have h : (zipFrom 0 l locks).all (chkE (l.length : Int)) = true := h.symm
    rw [h]
    exact hend h
  · intro n o rest hn ho hd ih
    obtain ⟨lk, hlk⟩ := getI (locks := locks) (n := n) (by omega)
    rw [← hd, zip_cons hd hlk, List.all_cons]
    intro h
    refine ev_shift ?_
    simp only [hs _ n o lk hn ho hlk, ev_ite_iff, ev_bind_iff (hF _ _ _), ev_some_iff]
    by_cases h3 : o.1 = 3
    · rw [if_pos h3]
      by_cases h0 : lk = 0
      · rw [show chkE (l.length : Int) ((n : Int), o, lk) = true by simp [chkE, h3, h0]] at h
        rw [if_pos h0]; exact ih h
      · rw [show chkE (l.length : Int) ((n : Int), o, lk) = false by simp [chkE, h3, h0]] at h
        rw [if_neg h0, ← h]; rfl
    · rw [if_neg h3]
      by_cases h0 : (n : Int) ≤ lk ∧ lk ≤ (l.length : Int) - 1
      · rw [show chkE (l.length : Int) ((n : Int), o, lk) = true by simp [chkE, h3, h0]] at h
        rw [if_neg (by simp [h0])]; exact ih h
      · rw [show chkE (l.length : Int) ((n : Int), o, lk) = false by simp [chkE, h3, h0]] at h
        rw [if_pos (by simp [h0]), ← h]; rfl
theorem specTwo_ev (hk : sizesO l) : Ev (fun k => spec_IsTwoPhase k l locks) (cond (opsB l && (zipFrom 0 l locks).all (chkE (l.length : Int))) (!specV (zipFrom 0 l locks), true) (false, false)) := by
  refine ev_congr (fun k => spec_IsTwoPhase_eq k l locks) ?_
  simp only [ev_bind_iff (specOps_ev l hl hk), ev_ite_iff, ev_some_iff]
  cases hb : opsB l with
  | false => simp
  | true =>
    rw [if_neg (by simp), if_neg (by simp [hlen])]
    have h := chk_ev l locks hlen hl (H := fun k i => spec_IsTwoPhase_h4 k l locks l (l.length : Int) i) (F := spec_l1In) l1In_ev (r := (!specV (zipFrom 0 l locks), true)) (fun _ => ev_shift ?_) ?_
    · exact h
    · simp only [spec_IsTwoPhase_h4_eq, ev_ite_iff]
      rw [if_neg (by omega)]
      exact outer_ev l locks hlen hl
    · intro k n o lk hn ho hlk
      have w : wrap64 ((l.length : Int) - 1) = (l.length : Int) - 1 := wrap_of (by omega) (by omega)
      simp only [spec_IsTwoPhase_h4_eq, rdT_get (e := OpK) ho, rdT_get (e := .int .i64) hlk, wrap_nat (show n < 9223372036854775807 by omega), w]
      rw [if_pos (by omega), if_pos (by omega), if_pos (by omega)]
      by_cases h3 : o.1 = 3
      · rw [if_pos h3, if_pos (by omega), if_pos (by omega)]
        by_cases h0 : lk = 0 <;> simp [h3, h0]
      · rw [if_neg h3, if_pos h3, if_pos (by omega), if_pos (by omega), if_neg h3]
end
theorem idx_ev (S : List SpT) (o : OpT) (hS : S.length ≤ 1048576) : Ev (fun k => slices_IndexFunc k S (o, ())) (idxFrom (sameS' (0, o, 0)) 0 S) := by
  have key := drop_ind0 S (fun n rest => Ev (fun k => slices_IndexFunc_h2 k S (o, ()) (S.length : Int) (n : Int)) (idxFrom (sameS' (0, o, 0)) n rest)) ?_ ?_
  · exact ev_congr (fun k => slices_IndexFunc_eq k S (o, ())) key
  · exact ev_last fun k => by rw [slices_IndexFunc_h2_eq, if_neg (by omega)]; rfl
  · intro n s rest hn hs hd ih
    have hp : Ev (fun k => impl_spansOf_1 k s o) (sameS' (0, o, 0) s) := ev_congr (fun k => impl_spansOf_1_eq k s o) (by unfold sameS'; by_cases h : s.1 = o.2.1 <;> simp [h, ev_some_iff])
    refine ev_shift ?_
    simp only [slices_IndexFunc_h2_eq, rdT_get (e := SpK) hs, wrap_nat (show n < 9223372036854775807 by omega), ev_ite_iff, ev_none_iff, ev_some_iff, ev_bind_iff hp]
    rw [if_pos (by omega), if_pos (by omega), if_pos (by omega)]
    unfold idxFrom
    cases sameS' (0, o, 0) s <;> simp <;> simpa using ih
theorem addTo_idx (e : TriT) : ∀ (S : List SpT) (n : Nat), (idxFrom (sameS' e) n S = -1 ∧ addTo e S = S ++ [upS e (newS e)]) ∨ ∃ (j : Nat) (s : SpT), idxFrom (sameS' e) n S = ((n + j : Nat) : Int) ∧ S[j]? = some s ∧ addTo e S = S.set j (upS e s)
  | [], n => .inl ⟨rfl, rfl⟩
  | s :: S, n => by
    unfold idxFrom addTo
    by_cases h : sameS' e s = true
    · rw [if_pos h, if_pos h]
      exact .inr ⟨0, s, rfl, rfl, rfl⟩
    · rw [if_neg h, if_neg h]
      rcases addTo_idx e S (n + 1) with ⟨a, b⟩ | ⟨j, x, a, b, c⟩
      · exact .inl ⟨a, by rw [b]; rfl⟩
      · exact .inr ⟨j + 1, x, by rw [a]; congr 1; omega, by simpa using b, by rw [c]; rfl⟩
theorem addTo_len (e : TriT) (S : List SpT) : (addTo e S).length ≤ S.length + 1 := by
  rcases addTo_idx e S 0 with ⟨_, b⟩ | ⟨j, x, _, _, c⟩
  · rw [b]; simp
  · rw [c]; simp
section
variable (l : List OpT) (locks : List Int) (hlen : locks.length = l.length) (hl : l.length ≤ 1048576)
include hlen hl
theorem spans_ev : Ev (fun k => impl_spansOf k l locks) (spansZ (zipFrom 0 l locks)) := by
  have key := drop_ind0 l (fun n rest => ∀ S : List SpT, S.length ≤ n → Ev (fun k => impl_spansOf_h3 k locks S l (l.length : Int) (n : Int)) ((zipFrom n rest (locks.drop n)).foldl (fun S e => if e.2.1.1 = 3 then S else addTo e S) S)) ?_ ?_
  · exact ev_congr (fun k => impl_spansOf_eq k l locks) (key [] (by simp))
  · intro S _
    exact ev_last fun k => by rw [impl_spansOf_h3_eq, if_neg (by omega)]; rfl
  · intro n o rest hn ho hd ih S hS
    obtain ⟨lk, hlk⟩ := getI (locks := locks) (n := n) (by omega)
    rw [← hd, zip_cons hd hlk, List.foldl_cons]
    have two : ∀ (S : List SpT) (j : Nat) (s : SpT) res, S[j]? = some s → Ev (fun k => impl_spansOf_h3 k locks (S.set j (upS ((n : Int), o, lk) s)) l (l.length : Int) ((n + 1 : Nat) : Int)) res →
        Ev (fun k => impl_spansOf_h10 k locks S (n : Int) o (j : Int) l (l.length : Int) (n : Int)) res := by
      intro S j s res hj h
      have hjl : j < S.length := (List.getElem?_eq_some_iff.1 hj).1
      refine ev_shift ?_
      simp only [impl_spansOf_h10_eq, rdT_get (e := SpK) hj, rdT_get (e := .int .i64) hlk, Int.toNat_natCast, rdT_set (e := SpK) hjl, List.length_set, List.set_set, wrap_nat (show n < 9223372036854775807 by omega), ev_ite_iff, ev_none_iff, gt_iff_lt]
      have d1 : (0 : Int) ≤ (j : Int) := by omega
      have d2 : (j : Int) < (S.length : Int) := by omega
      have d3 : (0 : Int) ≤ (n : Int) := by omega
      have d4 : (n : Int) < (locks.length : Int) := by omega
      simp only [if_pos d1, if_pos d2, if_pos d3, if_pos d4]
      obtain ⟨s1, s2, s3, s4, s5⟩ := s
      simp only [upS] at h
      cases s5
      · rw [if_neg (by simp)]; simpa using h
      · rw [if_pos rfl]; simpa using h
    have hi := idx_ev S o (by omega)
    have hsame : sameS' ((n : Int), o, lk) = sameS' (0, o, 0) := rfl
    refine ev_shift ?_
    simp only [impl_spansOf_h3_eq, rdT_get (e := OpK) ho, wrap_nat (show n < 9223372036854775807 by omega), ev_ite_iff, ev_none_iff, ev_bind_iff hi]
    rw [if_pos (by omega), if_pos (by omega), if_pos (by omega)]
    by_cases h3 : o.1 = 3
    · rw [if_pos h3]
      simp only [if_pos h3]
      exact ih S (by omega)
    · rw [if_neg h3]
      simp only [if_neg h3]
      have H := ih (addTo ((n : Int), o, lk) S) (by have := addTo_len ((n : Int), o, lk) S; omega)
      rcases addTo_idx ((n : Int), o, lk) S 0 with ⟨a, b⟩ | ⟨j, s, a, b, c⟩
      · rw [hsame] at a
        rw [a, if_pos (by omega), if_pos (by simp; omega)]
        refine two _ S.length (newS ((n : Int), o, lk)) _ (by simp [newS]) ?_
        rw [b] at H
        have : (S ++ [newS ((n : Int), o, lk)]).set S.length (upS ((n : Int), o, lk) (newS ((n : Int), o, lk))) = S ++ [upS ((n : Int), o, lk) (newS ((n : Int), o, lk))] := by simp
        rw [b, ← this]
        rw [← this] at H
        exact H
      · rw [hsame] at a
        rw [a, if_neg (by omega), show ((0 + j : Nat) : Int) = (j : Int) by simp]
        refine two S j s _ b ?_
        rw [← c]
        exact H
end
theorem pairs_ev (S : List SpT) (hS : S.length ≤ 1048576) (hle : ∀ s ∈ S, s.2.2.1 ≤ s.2.2.2.1) : Ev (fun k => impl_areTwoPhase k S) (!(S.any fun s => S.any (violS s))) := by
  have inner : ∀ (i : Nat) (s : SpT) (r : Bool), S[i]? = some s → Ev (fun k => impl_areTwoPhase_h2 k S S (S.length : Int) ((i + 1 : Nat) : Int)) r → Ev (fun k => impl_areTwoPhase_h5 k S (i : Int) s S (S.length : Int) (i : Int) S (S.length : Int) 0) (cond (S.any (violS s)) false r) := by
    intro i s r hs hr
    have hi : i < S.length := (List.getElem?_eq_some_iff.1 hs).1
    have key := drop_ind0 S (fun n rest => Ev (fun k => impl_areTwoPhase_h5 k S (i : Int) s S (S.length : Int) (i : Int) S (S.length : Int) (n : Int)) (cond (rest.any (violS s)) false r)) ?_ ?_
    · exact key
    · refine ev_shift ?_
      simp only [impl_areTwoPhase_h5_eq, wrap_nat (show i < 9223372036854775807 by omega), ev_ite_iff]
      rw [if_neg (by omega)]
      simpa using hr
    · intro n t rest hn ht hd ih
      refine ev_shift ?_
      simp only [impl_areTwoPhase_h5_eq, rdT_get (e := SpK) ht, wrap_nat (show n < 9223372036854775807 by omega), ev_ite_iff, ev_none_iff, ev_some_iff, List.any_cons]
      rw [if_pos (by omega), if_pos (by omega), if_pos (by omega)]
      by_cases hin : (i : Int) = (n : Int)
      · rw [if_pos hin]
        have : i = n := by omega
        subst this
        rw [hs] at ht
        obtain rfl := Option.some.inj ht
        have hv : violS s s = false := by
          have := hle s (List.mem_of_getElem? hs)
          simp [violS, show ¬ s.2.2.2.1 < s.2.2.1 by omega]
        rw [hv]; exact ih
      · rw [if_neg hin]
        have yes : violS s t = true → Ev (fun k => some false) (cond (violS s t || rest.any (violS s)) false r) := fun h => by rw [h]; exact ev_some false
        have no : violS s t = false → Ev (fun k => impl_areTwoPhase_h5 k S (i : Int) s S (S.length : Int) (i : Int) S (S.length : Int) ((n + 1 : Nat) : Int)) (cond (violS s t || rest.any (violS s)) false r) := fun h => by rw [h]; exact ih
        generalize cond (violS s t || rest.any (violS s)) false r = res at yes no ⊢
        simp only [ev_some_iff] at yes
        unfold violS at yes no
        by_cases h1 : s.1 = t.1
        · by_cases h2 : t.2.2.2.1 < s.2.2.1
          · have y := yes (by simp [h1, h2])
            by_cases h3 : s.2.1 = t.2.1 <;> by_cases h4 : s.2.2.1 ≤ t.2.2.2.1 <;> by_cases h5 : t.2.2.1 ≤ s.2.2.2.1 <;> cases s.2.2.2.2 <;> cases t.2.2.2.2 <;> first | omega | simpa [h1, h2, h3, h4, h5] using y
          · have y := no (by simp [h1, h2])
            by_cases h3 : s.2.1 = t.2.1 <;> by_cases h4 : s.2.2.1 ≤ t.2.2.2.1 <;> by_cases h5 : t.2.2.1 ≤ s.2.2.2.1 <;> cases s.2.2.2.2 <;> cases t.2.2.2.2 <;> first | omega | simpa [h1, h2, h3, h4, h5] using y
        · by_cases h3 : s.2.1 = t.2.1
          · by_cases h4 : s.2.2.1 ≤ t.2.2.2.1
            · by_cases h5 : t.2.2.1 ≤ s.2.2.2.1
              · cases h6 : s.2.2.2.2 <;> cases h7 : t.2.2.2.2
                · simpa [h1, h3, h4, h5, h6, h7] using no (by simp [h1, h6, h7])
                · simpa [h1, h3, h4, h5, h6, h7] using yes (by simp [h1, h3, h4, h5, h6, h7])
                · simpa [h1, h3, h4, h5, h6, h7] using yes (by simp [h1, h3, h4, h5, h6, h7])
                · simpa [h1, h3, h4, h5, h6, h7] using yes (by simp [h1, h3, h4, h5, h6, h7])
              · simpa [h1, h3, h4, h5] using no (by simp [h1, h5])
            · simpa [h1, h3, h4] using no (by simp [h1, h4])
          · simpa [h1, h3] using no (by simp [h1, h3])
  have key := drop_ind0 S (fun n rest => Ev (fun k => impl_areTwoPhase_h2 k S S (S.length : Int) (n : Int)) (!(rest.any fun s => S.any (violS s)))) ?_ ?_
  · exact ev_congr (fun k => impl_areTwoPhase_eq k S) key
  · exact ev_last fun k => by rw [impl_areTwoPhase_h2_eq, if_neg (by omega)]; rfl
  · intro n s rest hn hs hd ih
    refine ev_shift ?_
    simp only [impl_areTwoPhase_h2_eq, rdT_get (e := SpK) hs, ev_ite_iff, ev_none_iff]
    rw [if_pos (by omega), if_pos (by omega), if_pos (by omega)]
    have h := inner n s _ hs ih
    rw [List.any_cons]
    cases hq : S.any (violS s) with
    | false => rw [hq] at h; exact h
    | true => rw [hq] at h; exact h
theorem zip_mem : ∀ (l : List OpT) (locks : List Int) (n : Nat) (e : TriT), e ∈ zipFrom n l locks → 0 ≤ e.1 ∧ e.2.1 ∈ l
  | [], _, n, e, h => by simp [zipFrom] at h
  | o :: l, [], n, e, h => by simp [zipFrom] at h
  | o :: l, k :: ks, n, e, h => by
    rcases List.mem_cons.1 h with rfl | h
    · exact ⟨by simp only; omega, by simp⟩
    · obtain ⟨a, b⟩ := zip_mem l ks (n + 1) e h
      exact ⟨a, List.mem_cons_of_mem _ b⟩
theorem opsFrom_ok : ∀ {l : List OpT}, opsFrom l = true → ∀ o ∈ l, opOk o = true
  | [], _, o, ho => by cases ho
  | x :: l, h, o, ho => by
    simp only [opsFrom, Bool.and_eq_true] at h
    rcases List.mem_cons.1 ho with rfl | ho
    · exact h.1
    · exact opsFrom_ok h.2.2 o ho
theorem okZ_of {l : List OpT} {locks : List Int} (h : opsB l = true) (hc : (zipFrom 0 l locks).all (chkE (l.length : Int)) = true) : OkZ (zipFrom 0 l locks) := by
  intro e he
  obtain ⟨h0, ho⟩ := zip_mem l locks 0 e he
  simp only [opsB, Bool.and_eq_true] at h
  have hok := opsFrom_ok h.2 _ ho
  have hce := List.all_eq_true.1 hc e he
  refine ⟨h0, fun h3 => ?_, ?_⟩
  · simp only [chkE, if_neg h3, decide_eq_true_eq] at hce; exact hce.1
  · simp only [opOk, Bool.and_eq_true] at hok
    by_cases h3 : e.2.1.1 = 3
    · have := hok.2.2
      rw [if_pos h3, decide_eq_true_eq] at this
      exact ⟨fun _ => this, fun _ => h3⟩
    · have := hok.2.2
      rw [if_neg h3] at this
      refine ⟨fun h => absurd h h3, fun h => ?_⟩
      rw [keyB_empty h] at this
      cases this
theorem two_same {l : List OpT} {locks : List Int} (h : opsB l = true) (hc : (zipFrom 0 l locks).all (chkE (l.length : Int)) = true) :
    ((spansZ (zipFrom 0 l locks)).any fun s => (spansZ (zipFrom 0 l locks)).any (violS s)) = specV (zipFrom 0 l locks) := by
  have hz := okZ_of h hc
  refine viol_eq hz fun a ha h3 => ?_
  have hk : a.2.1.2.2 ≠ nilS := fun h => h3 ((hz a ha).2.2.2 h)
  exact hold_first hk _ hz ⟨a, ha, by simp [hitB]⟩
theorem spans_len (z : List TriT) : (spansZ z).length ≤ z.length := by
  induction z using snoc_ind with
  | nil => simp [spansZ]
  | snoc z e ih =>
    rw [spans_snoc]
    split
    · simp; omega
    · have := addTo_len e (spansZ z); simp; omega
theorem zip_len : ∀ (l : List OpT) (locks : List Int) (n : Nat), (zipFrom n l locks).length ≤ l.length
  | [], _, n => by simp [zipFrom]
  | o :: l, [], n => by simp [zipFrom]
  | o :: l, k :: ks, n => by simp only [zipFrom, List.length_cons]; have := zip_len l ks (n + 1); omega
theorem implTwo_ev (l : List OpT) (locks : List Int) (hl : l.length ≤ 1048576) (hk : sizesO l) : Ev (fun k => impl_IsTwoPhase k l locks) (cond (opsB l && (decide (locks.length = l.length) && (zipFrom 0 l locks).all (chkE (l.length : Int)))) (!specV (zipFrom 0 l locks), true) (false, false)) := by
  refine ev_congr (fun k => impl_IsTwoPhase_eq k l locks) ?_
  simp only [ev_bind_iff (implOps_ev l hl hk), ev_ite_iff, ev_some_iff]
  cases hb : opsB l with
  | false => simp
  | true =>
    rw [if_neg (by simp)]
    by_cases hlen : locks.length = l.length
    · rw [if_neg (by simp [hlen]), decide_eq_true hlen]
      have h := chk_ev l locks hlen hl (H := fun k i => impl_IsTwoPhase_h4 k l locks l (l.length : Int) i) (F := impl_in) in_ev (r := (!((spansZ (zipFrom 0 l locks)).any fun s => (spansZ (zipFrom 0 l locks)).any (violS s)), true)) ?_ ?_
      · cases hc : (zipFrom 0 l locks).all (chkE (l.length : Int)) with
        | false => rw [hc] at h; exact h
        | true => rw [hc, two_same hb hc] at h; exact h
      · intro hc
        have hz := okZ_of hb hc
        have hsl := spans_len (zipFrom 0 l locks)
        have hzl := zip_len l locks 0
        refine ev_shift ?_
        simp only [impl_IsTwoPhase_h4_eq, ev_ite_iff]
        rw [if_neg (by omega)]
        exact ev_bind (spans_ev l locks hlen hl) (ev_bind (pairs_ev _ (by omega) (spans_le hz)) (ev_some _))
      · intro k n o lk hn ho hlk
        have w : wrap64 ((l.length : Int) - 1) = (l.length : Int) - 1 := wrap_of (by omega) (by omega)
        simp only [impl_IsTwoPhase_h4_eq, rdT_get (e := OpK) ho, rdT_get (e := .int .i64) hlk, wrap_nat (show n < 9223372036854775807 by omega), w]
        rw [if_pos (by omega), if_pos (by omega), if_pos (by omega)]
        by_cases h3 : o.1 = 3
        · rw [if_pos h3, if_pos (by omega), if_pos (by omega)]
          by_cases h0 : lk = 0 <;> simp [h3, h0]
        · rw [if_neg h3, if_pos h3, if_pos (by omega), if_pos (by omega), if_neg h3]
    · rw [if_pos (by omega), decide_eq_false hlen]
      rfl
theorem law (a0 : List OpT) (a1 : List Int) (h0 : okT (.slice OpK) a0) (h1 : okT (.slice (.int .i64)) a1) : ∃ k, laws_FnExactIsTwoPhase k a0 a1 = some true := by
  apply ev_fuel
  refine ev_congr (fun k => laws_FnExactIsTwoPhase_eq k a0 a1) ?_
  have hs : ∀ x ∈ a0, szokOp x := fun x hx => (h0.2 x hx).2.2
  by_cases hl1 : 1048576 < a1.length
  · exact ev_if_pos (by omega) (ev_some _)
  refine ev_if_neg (by omega) ?_
  obtain ⟨v, hv, _, hB⟩ := szOpS_ev a0 (by have := h0.1; omega) hs 1048576 (by omega) (by omega)
  refine ev_bind hv ?_
  by_cases hneg : v < 0
  · exact ev_if_pos hneg (ev_some _)
  refine ev_if_neg hneg ?_
  obtain ⟨hl, _⟩ := hB (by omega)
  have spec : Ev (fun k => spec_IsTwoPhase k a0 a1) (cond (opsB a0 && (decide (a1.length = a0.length) && (zipFrom 0 a0 a1).all (chkE (a0.length : Int)))) (!specV (zipFrom 0 a0 a1), true) (false, false)) := by
    by_cases hlen : a1.length = a0.length
    · have := specTwo_ev a0 a1 hlen hl hs
      simpa only [hlen, decide_true, Bool.true_and] using this
    · refine ev_congr (fun k => spec_IsTwoPhase_eq k a0 a1) ?_
      simp only [ev_bind_iff (specOps_ev a0 hl hs), ev_ite_iff, ev_some_iff]
      rw [decide_eq_false hlen]
      cases opsB a0
      · rfl
      · rw [if_neg (by simp), if_pos (by omega)]; rfl
  have impl := implTwo_ev a0 a1 hl hs
  refine ev_bind (toOpS_ev a0 hl) (ev_bind (toIntS_ev a1 (by omega)) (ev_bind spec (ev_bind (toOpS_ev a0 hl) (ev_bind (toIntS_ev a1 (by omega)) (ev_bind impl (ev_if_neg (by simp) (ev_if_neg (by simp) ?_)))))))
  exact ev_bind (toOpS_ev a0 hl) (ev_bind (eqOpS_ev a0 (by omega)) (ev_if_neg (by simp) (ev_bind (toIntS_ev a1 (by omega)) (ev_bind (eqIntS_ev a1 (by omega)) (ev_if_neg (by simp) (ev_some _))))))

end Go.Proofs.YtobkiheihjdanaaDoor.Fms
