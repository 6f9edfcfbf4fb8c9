/- What the law's functions give: the pure part. -/
import Derived.Test.YtobkiheihjdanaaDoorFmAid
import Derived.Test.YtobkiheihjdanaaDoorFmOpn
import Derived.Test.YtobkiheihjdanaaDoorFmXFnExactSerialOpsEq
set_option autoImplicit true
set_option maxRecDepth 100000
set_option linter.unusedVariables false
set_option linter.unusedSimpArgs false
set_option linter.unnecessarySimpa false
set_option linter.unusedSectionVars false
open Go Go.Fm Go.RowKit
namespace Go.Proofs.YtobkiheihjdanaaDoor.Fms
/-! ### int -/
theorem toIntS_ev (l) (hl : l.length ≤ 1048576) : Ev (fun k => laws_toIntS k l) l := by
  refine ev_congr (fun k => laws_toIntS_eq k l) ?_
  simp only [ev_ite_iff]
  rw [if_pos trivial, if_pos (by omega)]
  simpa using to_row0 (e := .int .i64) (l := l) (z := _) (fun k l r i => laws_toIntS_h3_eq k l r i) (by omega)
theorem eqIntS_ev (l) (hl : l.length ≤ 140737488355328) : Ev (fun k => laws_eqIntS k l l) true := by
  refine ev_congr (fun k => laws_eqIntS_eq k l l) ?_
  simp only [ev_ite_iff]
  rw [if_neg (by simp)]
  exact eq_row0 (e := .int .i64) (l := l) (c := fun x y => x = y) (fun k a b i => laws_eqIntS_h4_eq k a b i) (fun x => rfl) (by omega)

/-! ### has -/
def hasB (l : List Int) (n : Int) : Bool := l.any fun x => decide (x = n)
theorem hasB_iff {l : List Int} {n : Int} : hasB l n = true ↔ n ∈ l := by simp [hasB]
theorem l1Has_ev (l : List Int) (n : Int) (hl : l.length ≤ 140737488355328) : Ev (fun k => spec_l1Has k l n) (hasB l n) := by
  have key := drop_ind0 l (fun j rest => Ev (fun k => spec_l1Has_h2 k n l (l.length : Int) (j : Int)) (hasB rest n)) ?_ ?_
  · exact ev_congr (fun k => spec_l1Has_eq k l n) key
  · exact ev_last fun k => by rw [spec_l1Has_h2_eq, if_neg (by omega)]; rfl
  · intro j x rest hj hx hd ih
    refine ev_shift ?_
    simp only [spec_l1Has_h2_eq, rdT_get (e := .int .i64) hx, wrap_nat (show j < 9223372036854775807 by omega), ev_ite_iff, ev_none_iff, ev_some_iff]
    rw [if_pos (by omega), if_pos (by omega), if_pos (by omega)]
    unfold hasB
    rw [List.any_cons]
    by_cases h : x = n
    · rw [if_pos h]; simp [h]
    · rw [if_neg h]; simpa [h, hasB] using ih

/-! ### base -/
theorem l1In_ev (n lo hi : Int) : Ev (fun k => spec_l1In k n lo hi) (decide (lo ≤ n ∧ n ≤ hi)) := ev_congr (fun k => by rw [spec_l1In_eq]) (by by_cases h : lo ≤ n <;> simp [ev_some_iff, h])

/-! ### inn -/
theorem in_ev (n lo hi : Int) : Ev (fun k => impl_in k n lo hi) (decide (lo ≤ n ∧ n ≤ hi)) := ev_congr (fun k => by rw [impl_in_eq]) (by by_cases h : lo ≤ n <;> simp [ev_some_iff, h])

/-! ### keys -/
def keyByte (b : UInt8) : Bool := (decide (97 ≤ b.toNat) && decide (b.toNat ≤ 122)) || (decide (48 ≤ b.toNat) && decide (b.toNat ≤ 57))
def keyB (s : ByteArray) : Bool := decide (1 ≤ s.size ∧ s.size ≤ 8) && s.data.toList.all keyByte
def keyCut : List UInt8 := [97, 98, 99, 100, 101, 102, 103, 104, 105, 106, 107, 108, 109, 110, 111, 112, 113, 114, 115, 116, 117, 118, 119, 120, 121, 122, 48, 49, 50, 51, 52, 53, 54, 55, 56, 57]
theorem keyCut_has (b : UInt8) : keyCut.contains b = keyByte b := by
  have h : ∀ n : Fin 256, keyCut.contains (UInt8.ofNat n.val) = keyByte (UInt8.ofNat n.val) := by decide +kernel
  have := h ⟨b.toNat, b.toNat_lt⟩
  simpa using this
theorem drop_nil {α : Type} (p : α → Bool) (l : List α) : (l.dropWhile p).isEmpty = l.all p := by
  induction l with
  | nil => rfl
  | cons x l ih => cases h : p x <;> simp [List.dropWhile_cons, h, ih]
theorem all_drop {α : Type} (p : α → Bool) (l : List α) : (l.dropWhile p).all p = l.all p := by
  induction l with
  | nil => rfl
  | cons x l ih => cases h : p x <;> simp [List.dropWhile_cons, h, ih]
theorem trim_nil (l : List UInt8) : (Go.Lib.trimS l keyCut).isEmpty = l.all keyByte := by
  unfold Go.Lib.trimS Go.Lib.trimLeftS Go.Lib.trimRightS
  rw [drop_nil, List.all_reverse, all_drop, List.all_reverse]
  congr 1
  funext b
  exact keyCut_has b
theorem mk_nil (l : List UInt8) : decide ((⟨l.toArray⟩ : ByteArray) = ByteArray.mk (Array.mk [])) = l.isEmpty := by
  cases l with
  | nil => exact decide_eq_true rfl
  | cons x l => exact decide_eq_false (fun h => by have := congrArg (fun b : ByteArray => b.data.size) h; simp at this)
theorem isKey_ev (s : ByteArray) : Ev (fun k => impl_isKey k s) (keyB s) := by
  refine ev_congr (fun k => impl_isKey_eq k s) ?_
  have e : MapW.strings_Trim.f s ⟨#[97, 98, 99, 100, 101, 102, 103, 104, 105, 106, 107, 108, 109, 110, 111, 112, 113, 114, 115, 116, 117, 118, 119, 120, 121, 122, 48, 49, 50, 51, 52, 53, 54, 55, 56, 57]⟩ = if s.size ≤ 9223372036854775807 then some ⟨(Go.Lib.trimS s.data.toList keyCut).toArray⟩ else none := by
    unfold MapW.strings_Trim.f
    by_cases h : s.size ≤ 9223372036854775807
    · rw [if_pos ⟨h, by decide, by decide⟩, if_pos h]; rfl
    · rw [if_neg (fun hh => h hh.1), if_neg h]
  simp only [e]
  unfold keyB
  by_cases h1 : (1 : Int) ≤ (s.size : Int)
  · by_cases h2 : (s.size : Int) ≤ 8
    · have h3 : 1 ≤ s.size ∧ s.size ≤ 8 := by omega
      rw [if_pos h1, if_pos h2, if_pos (by omega)]
      simp only [Option.bind_some, mk_nil, trim_nil, h3, decide_true, and_self, Bool.true_and]
      exact ev_some _
    · have h3 : ¬ (1 ≤ s.size ∧ s.size ≤ 8) := by omega
      rw [if_pos h1, if_neg h2]
      simp only [h3, decide_false, Bool.false_and]
      exact ev_some _
  · have h3 : ¬ (1 ≤ s.size ∧ s.size ≤ 8) := by omega
    rw [if_neg h1]
    simp only [h3, decide_false, Bool.false_and]
    exact ev_some _
theorem l1Key_ev (s : ByteArray) (hs : s.size ≤ 140737488355328) : Ev (fun k => spec_l1Key k s) (keyB s) := by
  have hl := size_len s
  have key := drop_ind0 s.data.toList (fun n rest => Ev (fun k => spec_l1Key_h2 k s (n : Int)) (rest.all keyByte && decide (1 ≤ s.size ∧ s.size ≤ 8))) ?_ ?_
  · refine ev_congr (fun k => spec_l1Key_eq k s) ?_
    unfold keyB
    rw [Bool.and_comm]
    exact key
  · refine ev_shift ?_
    simp only [spec_l1Key_h2_eq, ev_ite_iff, ev_bind_iff (l1In_ev _ _ _), ev_some_iff]
    rw [← hl, if_neg (by omega)]
    simp only [List.all_nil, Bool.true_and]
    congr 1
    exact propext ⟨fun h => by omega, fun h => by omega⟩
  · intro n b rest hn hx hd ih
    refine ev_shift ?_
    simp only [spec_l1Key_h2_eq, bt_nat hx, wrap_nat (show n < 9223372036854775807 by omega), ev_ite_iff, ev_some_iff, ev_none_iff, List.all_cons]
    rw [if_pos (by omega), if_pos (by omega), if_pos (by omega)]
    cases hp : keyByte b with
    | true =>
      simp only [Bool.true_and]
      simp only [keyByte, Bool.or_eq_true, Bool.and_eq_true, decide_eq_true_eq] at hp
      split
      · split
        · exact ih
        · rw [if_pos (by omega), if_neg (by omega)]; exact ih
      · rw [if_pos (by omega), if_neg (by omega)]; exact ih
    | false =>
      simp only [keyByte, Bool.or_eq_false_iff, Bool.and_eq_false_iff, decide_eq_false_iff_not] at hp
      simp only [Bool.false_and]
      split
      · rw [if_neg (by omega)]
        split
        · rw [if_pos (by omega)]; trivial
        · trivial
      · split
        · rw [if_pos (by omega)]; trivial
        · trivial

/-! ### op -/
abbrev OpT := Int × Int × ByteArray
abbrev OpK : Kind := .struct (.pair (.int .i64) (.pair (.int .i64) .str))
def szokOp (x : OpT) : Prop := x.2.2.size ≤ 140737488351232
def szBOp (x : OpT) : Prop := x.2.2.size ≤ 1048576
theorem szOp_ev (x : OpT) (hx : szokOp x) (a : Int) (h0 : 0 ≤ a) (h1 : a ≤ 1048576) : ∃ v, Ev (fun k => laws_szOp k x a) v ∧ v ≤ a ∧ (0 ≤ v → szBOp x) := by
  unfold szokOp at hx
  have w : wrap64 (a - (x.2.2.size : Int)) = a - x.2.2.size := wrap_of (by omega) (by omega)
  by_cases h : a - (x.2.2.size : Int) < 0
  · exact ⟨-1, ev_congr (fun k => by rw [laws_szOp_eq, w, if_pos h]) (ev_some _), by omega, fun h => by omega⟩
  · exact ⟨_, ev_congr (fun k => by rw [laws_szOp_eq, w, if_neg h]) (ev_some _), by omega, fun _ => by unfold szBOp; omega⟩
theorem toOp_ev (x : OpT) : Ev (fun k => laws_toOp k x) x := ev_congr (fun k => laws_toOp_eq k x) (ev_some x)
theorem eqOp_ev (x : OpT) : Ev (fun k => laws_eqOp k x x) true := ev_congr (fun k => laws_eqOp_eq k x x) (by simp [ev_some_iff])
theorem szOpS_ev (l) (hl : l.length ≤ 140737488355328) (hk : ∀ x ∈ l, szokOp x) (a : Int) (h0 : 0 ≤ a) (h1 : a ≤ 1048576) : ∃ v, Ev (fun k => laws_szOpS k l a) v ∧ v ≤ a ∧ (0 ≤ v → l.length ≤ 1048576 ∧ ∀ x ∈ l, szBOp x) :=
  sz_top (fun k l a => laws_szOpS_eq k l a) (sz_row (fun k l a i => laws_szOpS_h5_eq k l a i) (fun x hx a h0 h1 => szOp_ev x (hk x hx) a h0 h1) (by omega)) hl a h0 h1
theorem toOpS_ev (l) (hl : l.length ≤ 1048576) : Ev (fun k => laws_toOpS k l) l := by
  refine ev_congr (fun k => laws_toOpS_eq k l) ?_
  simp only [ev_ite_iff]
  rw [if_pos trivial, if_pos (by omega)]
  simpa using to_row (l := l) (cv := id) (z := _) (fun k l r i => laws_toOpS_h3_eq k l r i) (fun x _ => toOp_ev x) (by omega)
theorem eqOpS_ev (l) (hl : l.length ≤ 140737488355328) : Ev (fun k => laws_eqOpS k l l) true := by
  refine ev_congr (fun k => laws_eqOpS_eq k l l) ?_
  simp only [ev_ite_iff]
  rw [if_neg (by simp)]
  exact eq_row (l := l) (fun k a b i => laws_eqOpS_h4_eq k a b i) (fun x _ => eqOp_ev x) (by omega)

/-! ### ops -/
def opOk (o : OpT) : Bool := decide (1 ≤ o.1 ∧ o.1 ≤ 3) && (decide (1 ≤ o.2.1 ∧ o.2.1 ≤ 8) && (if o.1 = 3 then decide (o.2.2 = ByteArray.mk (Array.mk [])) else keyB o.2.2))
def sameT (o x : OpT) : Bool := decide (x.2.1 = o.2.1)
def doneT (o x : OpT) : Bool := decide (x.2.1 = o.2.1) && decide (x.1 = 3)
def condT (o : OpT) (later done : Bool) : Bool := if o.1 = 3 then !later else done
def opsFrom : List OpT → Bool
  | [] => true
  | o :: r => opOk o && (condT o (r.any (sameT o)) (r.any (doneT o)) && opsFrom r)
def opsB (l : List OpT) : Bool := decide (l.length ≤ 60) && opsFrom l
theorem keyB_empty {s : ByteArray} (h : s = ByteArray.mk (Array.mk [])) : keyB s = false := by
  subst h
  rfl
def runI (ov se : List Bool) : List OpT → Bool
  | [] => se == ov
  | o :: r => opOk o && (!(ov.getD o.2.1.toNat false) && runI (ov.set o.2.1.toNat (o.1 == 3)) (se.set o.2.1.toNat true) r)
theorem opOk_txn {o : OpT} (h : opOk o = true) : 1 ≤ o.2.1 ∧ o.2.1 ≤ 8 := by
  simp only [opOk, Bool.and_eq_true, decide_eq_true_eq] at h
  exact h.2.1
theorem getD_set (l : List Bool) (n m : Nat) (b : Bool) (hn : n < l.length) : (l.set n b).getD m false = if m = n then b else l.getD m false := by
  by_cases h : m = n
  · subst h; simp [hn]
  · rw [if_neg h]
    simp only [List.getD_eq_getElem?_getD]
    rw [List.getElem?_set_ne (by omega)]
theorem runI_iff : ∀ (r : List OpT) (ov se : List Bool), ov.length = 9 → se.length = 9 → (∀ n, ov.getD n false = true → se.getD n false = true) →
    (runI ov se r = true ↔ opsFrom r = true ∧ ∀ n, n < 9 → ((ov.getD n false = true → ∀ o ∈ r, o.2.1.toNat ≠ n) ∧ (se.getD n false = true → ov.getD n false = false → ∃ o ∈ r, o.2.1.toNat = n ∧ o.1 = 3)))
  | [], ov, se, ho, hs, hle => by
    simp only [runI, opsFrom, beq_iff_eq, true_and]
    constructor
    · rintro rfl n _
      exact ⟨fun _ o h => (by cases h), fun h1 h2 => (by rw [h1] at h2; cases h2)⟩
    · intro h
      apply List.ext_getElem?
      intro n
      by_cases hn : n < 9
      · obtain ⟨_, h2⟩ := h n hn
        have hl := hle n
        simp only [List.getD_eq_getElem?_getD] at h2 hl
        rw [List.getElem?_eq_getElem (by omega), List.getElem?_eq_getElem (by omega)] at *
        simp only [Option.getD_some] at h2 hl
        congr 1
        cases e1 : ov[n] with
        | true => exact hl e1
        | false =>
          cases e2 : se[n] with
          | false => rfl
          | true => obtain ⟨o, h, _⟩ := h2 e2 e1; cases h
      · rw [List.getElem?_eq_none (by omega), List.getElem?_eq_none (by omega)]
  | o :: r, ov, se, ho, hs, hle => by
    simp only [runI, opsFrom, Bool.and_eq_true, Bool.not_eq_true']
    by_cases hok : opOk o = true
    · have ht := opOk_txn hok
      have hT : o.2.1.toNat < 9 := by omega
      have ih := runI_iff r (ov.set o.2.1.toNat (o.1 == 3)) (se.set o.2.1.toNat true) (by simpa using ho) (by simpa using hs) (fun n => by
        rw [getD_set ov _ _ _ (by omega), getD_set se _ _ _ (by omega)]
        split
        · intro _; rfl
        · exact hle n)
      rw [ih]
      have eqv : ∀ x : OpT, x.2.1 = o.2.1 ↔ x.2.1.toNat = o.2.1.toNat := fun x => ⟨fun e => by rw [e], fun e => by omega⟩
      have hcond : condT o (r.any (sameT o)) (r.any (doneT o)) = true ↔ ((o.1 = 3 → ∀ x ∈ r, x.2.1.toNat ≠ o.2.1.toNat) ∧ (¬ o.1 = 3 → ∃ x ∈ r, x.2.1.toNat = o.2.1.toNat ∧ x.1 = 3)) := by
        unfold condT
        by_cases h3 : o.1 = 3
        · simp only [if_pos h3, Bool.not_eq_true', List.any_eq_false, sameT, decide_eq_true_eq, eqv]
          constructor
          · intro h; exact ⟨fun _ => h, fun n => absurd h3 n⟩
          · intro h; exact h.1 h3
        · simp only [if_neg h3, List.any_eq_true, doneT, Bool.and_eq_true, decide_eq_true_eq, eqv]
          constructor
          · intro h; exact ⟨fun n => absurd n h3, fun _ => h⟩
          · intro h; exact h.2 h3
      rw [hcond]
      constructor
      · rintro ⟨_, hov, hf, hall⟩
        obtain ⟨t1, t2⟩ := hall o.2.1.toNat hT
        rw [getD_set ov _ _ _ (by omega), getD_set se _ _ _ (by omega), if_pos rfl, if_pos rfl] at t2
        rw [getD_set ov _ _ _ (by omega), if_pos rfl] at t1
        refine ⟨⟨hok, ⟨fun h3 => t1 (by simp [h3]), fun h3 => t2 rfl (by simp [h3])⟩, hf⟩, fun n hn => ?_⟩
        by_cases hne : n = o.2.1.toNat
        · subst hne
          refine ⟨fun h => (by rw [hov] at h; cases h), fun _ _ => ?_⟩
          by_cases h3 : o.1 = 3
          · exact ⟨o, List.mem_cons_self, rfl, h3⟩
          · obtain ⟨x, hx, hx2⟩ := t2 rfl (by simp [h3])
            exact ⟨x, List.mem_cons_of_mem _ hx, hx2⟩
        · obtain ⟨s1, s2⟩ := hall n hn
          rw [getD_set ov _ _ _ (by omega), if_neg hne] at s1 s2
          rw [getD_set se _ _ _ (by omega), if_neg hne] at s2
          refine ⟨fun h x hx => ?_, fun h1 h2 => ?_⟩
          · rcases List.mem_cons.1 hx with rfl | hx
            · exact fun e => hne e.symm
            · exact s1 h x hx
          · obtain ⟨x, hx, hx2⟩ := s2 h1 h2
            exact ⟨x, List.mem_cons_of_mem _ hx, hx2⟩
      · rintro ⟨⟨_, ⟨c1, c2⟩, hf⟩, hall⟩
        obtain ⟨t1, t2⟩ := hall o.2.1.toNat hT
        have hov : ov.getD o.2.1.toNat false = false := by
          cases h : ov.getD o.2.1.toNat false with
          | false => rfl
          | true => exact absurd rfl (t1 h o List.mem_cons_self)
        refine ⟨hok, hov, hf, fun n hn => ?_⟩
        rw [getD_set ov _ _ _ (by omega), getD_set se _ _ _ (by omega)]
        by_cases hne : n = o.2.1.toNat
        · subst hne
          simp only [if_true]
          refine ⟨fun h => c1 (by simpa using h), fun _ h => c2 (by simpa using h)⟩
        · simp only [if_neg hne]
          obtain ⟨s1, s2⟩ := hall n hn
          refine ⟨fun h x hx => s1 h x (List.mem_cons_of_mem _ hx), fun h1 h2 => ?_⟩
          obtain ⟨x, hx, hx2⟩ := s2 h1 h2
          rcases List.mem_cons.1 hx with rfl | hx
          · exact absurd hx2.1.symm hne
          · exact ⟨x, hx, hx2⟩
    · simp [hok]
theorem runI_start (l : List OpT) : runI (List.replicate 9 false) (List.replicate 9 false) l = opsFrom l := by
  have z : ∀ n, (List.replicate 9 false).getD n false = false := by
    intro n
    simp only [List.getD_eq_getElem?_getD, List.getElem?_replicate]
    split <;> rfl
  rw [Bool.eq_iff_iff, runI_iff l _ _ (by simp) (by simp) (fun n h => h)]
  simp only [z]
  simp

def sizesO (l : List OpT) : Prop := ∀ y ∈ l, y.2.2.size ≤ 140737488351232
theorem specOps_ev (l : List OpT) (hl : l.length ≤ 1048576) (hk : sizesO l) : Ev (fun k => spec_GoodOps k l) (opsB l) := by
  have key := drop_ind0 l (fun n rest => Ev (fun k => spec_GoodOps_h4 k l l (l.length : Int) (n : Int)) (opsFrom rest)) ?_ ?_
  · refine ev_congr (fun k => spec_GoodOps_eq k l) ?_
    unfold opsB
    simp only [ev_ite_iff, ev_some_iff]
    by_cases h60 : l.length ≤ 60
    · rw [if_neg (by omega)]
      simpa [h60] using key
    · rw [if_pos (by omega)]
      simp [h60]
  · exact ev_last (fun k => by rw [spec_GoodOps_h4_eq, if_neg (by omega)]; rfl)
  · intro n o rest hn ho hd ih
    have s1 := hk o (List.mem_of_getElem? ho)
    have hrest := drop_next hd
    have hno : opsFrom (o :: rest) = (opOk o && (condT o (rest.any (sameT o)) (rest.any (doneT o)) && opsFrom rest)) := rfl
    have hlr : rest.length ≤ l.length := by rw [← hrest]; simp
    have inner : Ev (fun k => spec_GoodOps_h11 k l o false false l (l.length : Int) (n : Int) rest (rest.length : Int) 0) (condT o (rest.any (sameT o)) (rest.any (doneT o)) && opsFrom rest) := by
      have key2 := drop_ind0 rest (fun j rs => ∀ a b : Bool, Ev (fun k => spec_GoodOps_h11 k l o a b l (l.length : Int) (n : Int) rest (rest.length : Int) (j : Int)) (condT o (a || rs.any (sameT o)) (b || rs.any (doneT o)) && opsFrom rest)) ?_ ?_
      · simpa using key2 false false
      · intro a b
        refine ev_shift ?_
        simp only [spec_GoodOps_h11_eq, wrap_nat (show n < 9223372036854775807 by omega), ev_ite_iff, ev_some_iff]
        rw [if_neg (by omega)]
        simp only [List.any_nil, Bool.or_false, condT]
        by_cases h3 : o.1 = 3
        · cases a <;> simpa [h3] using ih
        · cases b <;> simpa [h3] using ih
      · intro j x rs hj hx _ ih2 a b
        have H := ih2 (a || decide (x.2.1 = o.2.1)) (b || (decide (x.2.1 = o.2.1) && decide (x.1 = 3)))
        have e1 : (a || decide (x.2.1 = o.2.1) || rs.any (sameT o)) = (a || (x :: rs).any (sameT o)) := by simp [sameT, Bool.or_assoc]
        have e2 : (b || (decide (x.2.1 = o.2.1) && decide (x.1 = 3)) || rs.any (doneT o)) = (b || (x :: rs).any (doneT o)) := by simp [doneT, Bool.or_assoc]
        rw [e1, e2] at H
        refine ev_shift ?_
        simp only [spec_GoodOps_h11_eq, rdT_get (e := OpK) hx, wrap_nat (show j < 9223372036854775807 by omega), ev_ite_iff, ev_none_iff]
        rw [if_pos (by omega), if_pos (by omega), if_pos (by omega)]
        by_cases h1 : x.2.1 = o.2.1 <;> cases a <;> cases b <;> simpa [h1] using H
    refine ev_shift ?_
    simp only [spec_GoodOps_h4_eq, rdT_get (e := OpK) ho, wrap_nat (show n < 9223372036854775807 by omega), Int.toNat_natCast, List.take_length, hrest, ev_ite_iff, ev_bind_iff (l1In_ev _ _ _), ev_bind_iff (l1Key_ev o.2.2 (by omega)), ev_some_iff, ev_none_iff]
    rw [if_pos (by omega), if_pos (by omega), if_pos (by omega), hno, if_pos (show (0 : Int) ≤ ((n + 1 : Nat) : Int) by omega), if_pos (show ((n + 1 : Nat) : Int) ≤ (l.length : Int) by omega)]
    unfold opOk
    by_cases b0 : 1 ≤ o.1 ∧ o.1 ≤ 3
    · by_cases b1 : 1 ≤ o.2.1 ∧ o.2.1 ≤ 8
      · by_cases b2 : o.2.2 = ByteArray.mk (Array.mk [])
        · by_cases b3 : o.1 = 3
          · simpa [b0, b1, b2, b3] using inner
          · simp [b0, b1, b3, b2, show keyB (ByteArray.mk (Array.mk [])) = false from rfl]
        · by_cases b3 : o.1 = 3
          · simp [b0, b1, b2, b3]
          · cases b4 : keyB o.2.2 with
            | true => simpa [b0, b1, b2, b3, b4] using inner
            | false => simp [b0, b1, b2, b3, b4]
      · simp [b0, b1]
    · simp [b0]
theorem eqL_bool : ∀ {a b : List Bool}, eqL (fun x y => decide (x = y)) a b = (a == b)
  | [], [] => rfl
  | [], _ :: _ => rfl
  | _ :: _, [] => rfl
  | x :: a, y :: b => by simp only [eqL, eqL_bool (a := a) (b := b)]; cases x <;> cases y <;> simp
theorem implOps_ev (l : List OpT) (hl : l.length ≤ 1048576) (hk : sizesO l) : Ev (fun k => impl_areOps k l) (opsB l) := by
  have key := drop_ind0 l (fun n rest => ∀ ov se : List Bool, ov.length = 9 → se.length = 9 → Ev (fun k => impl_areOps_h4 k l ov se l (l.length : Int) (n : Int)) (decide (l.length ≤ 60) && runI ov se rest)) ?_ ?_
  · refine ev_congr (fun k => impl_areOps_eq k l) ?_
    have := key (List.replicate 9 false) (List.replicate 9 false) (by simp) (by simp)
    rw [runI_start] at this
    exact this
  · intro ov se ho hs
    refine ev_shift ?_
    simp only [impl_areOps_h4_eq, ev_ite_iff, ev_some_iff]
    rw [if_neg (by omega), eqL_bool]
    by_cases h60 : l.length ≤ 60
    · rw [if_pos (by omega)]; simp [h60, runI]
    · rw [if_neg (by omega)]; simp [h60]
  · intro n o rest hn ho _ ih ov se hov hse
    have s1 := hk o (List.mem_of_getElem? ho)
    have hno : runI ov se (o :: rest) = (opOk o && (!(ov.getD o.2.1.toNat false) && runI (ov.set o.2.1.toNat (o.1 == 3)) (se.set o.2.1.toNat true) rest)) := rfl
    have H := ih (ov.set o.2.1.toNat (o.1 == 3)) (se.set o.2.1.toNat true) (by simpa using hov) (by simpa using hse)
    have e3 : decide (o.1 = 3) = (o.1 == 3) := by by_cases h : o.1 = 3 <;> simp [h]
    refine ev_shift ?_
    simp only [impl_areOps_h4_eq, rdT_get (e := OpK) ho, wrap_nat (show n < 9223372036854775807 by omega), ev_ite_iff, ev_bind_iff (in_ev _ _ _), ev_bind_iff (isKey_ev _), ev_some_iff, ev_none_iff, e3]
    obtain ⟨q, hq⟩ : ∃ q, ov.getD o.2.1.toNat false = q := ⟨_, rfl⟩
    rw [if_pos (by omega), if_pos (by omega), if_pos (by omega), hno, hq]
    unfold opOk
    by_cases b0 : 1 ≤ o.1 ∧ o.1 ≤ 3
    · by_cases b1 : 1 ≤ o.2.1 ∧ o.2.1 ≤ 8
      · have c1 : (0 : Int) ≤ o.2.1 := by omega
        have c2 : o.2.1 < 9 := by omega
        have e4 : rdT .bool ov o.2.1 = q := hq
        by_cases b3 : o.1 = 3
        · by_cases b2 : o.2.2 = ByteArray.mk (Array.mk [])
          · cases q <;> simp [b0, b1, b3, b2, c1, c2, e4] at H ⊢ <;> exact H
          · cases q <;> simp [b0, b1, b3, b2, c1, c2, e4]
        · cases b4 : keyB o.2.2 <;> cases q <;> simp [b0, b1, b3, b4, c1, c2, e4] at H ⊢ <;> exact H
      · simp [b0, b1]
    · simp [b0]

/-! ### txns -/
def leI (x y : Int) : Bool := decide (x ≤ y)
def t8 : List Int := (List.range 8).map fun (i : Nat) => (i : Int) + 1
def txB (l : List OpT) (t : Int) : Bool := l.any fun o => decide (o.2.1 = t)
def txnsB (l : List OpT) : List Int := t8.filter (txB l)
def commitsB (l : List OpT) : List Int := (l.filter fun o => decide (o.1 = 3)).map fun o => o.2.1
theorem t8_get {n : Nat} {x : Int} (h : t8[n]? = some x) : x = (n : Int) + 1 ∧ n < 8 := by
  simp only [t8, List.getElem?_map, List.getElem?_range] at h
  by_cases hn : n < 8
  · simp [hn] at h; exact ⟨h.symm, hn⟩
  · simp [List.getElem?_eq_none (show (List.range 8).length ≤ n by simp; omega)] at h
theorem l3Txns_ev (l : List OpT) (hl : l.length ≤ 1048576) : Ev (fun k => spec_l3Txns k l) (txnsB l) := by
  have key := drop_ind0 t8 (fun n rest => ∀ out : List Int, out.length ≤ n → Ev (fun k => spec_l3Txns_h3 k l out ((n : Int) + 1)) (out ++ rest.filter (txB l))) ?_ ?_
  · exact ev_congr (fun k => spec_l3Txns_eq k l) (key [] (by simp))
  · intro out _
    have : t8.length = 8 := rfl
    exact ev_last fun k => by rw [spec_l3Txns_h3_eq, if_neg (by omega)]; simp
  · intro n x rest hn hx hd ih out ho
    obtain ⟨rfl, hn8⟩ := t8_get hx
    have hin := drop_ind0 l (fun j rs => Ev (fun k => spec_l3Txns_h6 k l out ((n : Int) + 1) l (l.length : Int) (j : Int)) (cond (txB rs ((n : Int) + 1)) (out ++ [(n : Int) + 1] ++ rest.filter (txB l)) (out ++ rest.filter (txB l)))) ?_ ?_
    · refine ev_shift ?_
      simp only [spec_l3Txns_h3_eq, ev_ite_iff]
      rw [if_pos (by omega)]
      have e : out ++ List.filter (txB l) (((n : Int) + 1) :: rest) = cond (txB l ((n : Int) + 1)) (out ++ [(n : Int) + 1] ++ rest.filter (txB l)) (out ++ rest.filter (txB l)) := by
        rw [List.filter_cons]
        cases txB l ((n : Int) + 1) <;> simp
      rw [e]
      exact hin
    · refine ev_shift ?_
      simp only [spec_l3Txns_h6_eq, ev_ite_iff]
      rw [if_neg (by omega), wrap_of (by omega) (by omega)]
      have := ih out (by omega)
      rw [show (((n + 1 : Nat) : Int) + 1) = (n : Int) + 1 + 1 by omega] at this
      exact this
    · intro j o rs hj hx hd ih2
      refine ev_shift ?_
      simp only [spec_l3Txns_h6_eq, rdT_get (e := OpK) hx, wrap_nat (show j < 9223372036854775807 by omega), ev_ite_iff, ev_none_iff]
      rw [if_pos (by omega), if_pos (by omega), if_pos (by omega)]
      unfold txB
      rw [List.any_cons]
      by_cases h : o.2.1 = (n : Int) + 1
      · rw [if_pos h, if_pos (by simp; omega), wrap_of (by omega) (by omega), decide_eq_true h]
        have := ih (out ++ [(n : Int) + 1]) (by simp; omega)
        rw [show (((n + 1 : Nat) : Int) + 1) = (n : Int) + 1 + 1 by omega] at this
        exact this
      · rw [if_neg h, decide_eq_false h]
        exact ih2
theorem txnsOf_ev (l : List OpT) (hl : l.length ≤ 1048576) : Ev (fun k => impl_txnsOf k l) (List.mergeSort (commitsB l) leI) := by
  have hsort : ∀ out : List Int, out.length ≤ 1048576 → gvSortInt out = some (List.mergeSort out leI, ()) := fun out h => by unfold gvSortInt; rw [if_pos (by omega)]; rfl
  have key := drop_ind0 l (fun n rest => ∀ out : List Int, out.length ≤ n → Ev (fun k => impl_txnsOf_h3 k out l (l.length : Int) (n : Int)) (List.mergeSort (out ++ commitsB rest) leI)) ?_ ?_
  · exact ev_congr (fun k => impl_txnsOf_eq k l) (key [] (by simp))
  · intro out ho
    refine ev_last fun k => ?_
    rw [impl_txnsOf_h3_eq, if_neg (by omega), hsort out (by omega)]
    simp [commitsB]
  · intro n o rest hn hx hd ih out ho
    refine ev_shift ?_
    simp only [impl_txnsOf_h3_eq, rdT_get (e := OpK) hx, wrap_nat (show n < 9223372036854775807 by omega), ev_ite_iff, ev_none_iff]
    rw [if_pos (by omega), if_pos (by omega), if_pos (by omega)]
    by_cases h : o.1 = 3
    · rw [if_pos h, if_pos (by simp; omega)]
      have := ih (out ++ [o.2.1]) (by simp; omega)
      simpa [commitsB, h] using this
    · rw [if_neg h]
      have := ih out (by omega)
      simpa [commitsB, h] using this
theorem commits_mem {l : List OpT} {t : Int} : t ∈ commitsB l ↔ ∃ o ∈ l, o.1 = 3 ∧ o.2.1 = t := by
  simp only [commitsB, List.mem_map, List.mem_filter, decide_eq_true_eq]
  constructor
  · rintro ⟨o, ⟨h1, h2⟩, h3⟩; exact ⟨o, h1, h2, h3⟩
  · rintro ⟨o, h1, h2, h3⟩; exact ⟨o, ⟨h1, h2⟩, h3⟩
theorem commits_nodup : ∀ {l : List OpT}, opsFrom l = true → (commitsB l).Nodup
  | [], _ => by simp [commitsB]
  | o :: r, h => by
    simp only [opsFrom, Bool.and_eq_true] at h
    have ih := commits_nodup h.2.2
    unfold commitsB
    rw [List.filter_cons]
    by_cases h3 : o.1 = 3
    · rw [if_pos (by simpa using h3), List.map_cons, List.nodup_cons]
      refine ⟨fun hm => ?_, ih⟩
      obtain ⟨x, hx, _, hx2⟩ := commits_mem.1 hm
      have hc := h.2.1
      simp only [condT, if_pos h3, Bool.not_eq_true', List.any_eq_false] at hc
      exact hc x hx (by simp [sameT, hx2])
    · rw [if_neg (by simpa using h3)]
      exact ih
theorem txn_commits : ∀ {l : List OpT}, opsFrom l = true → ∀ o ∈ l, ∃ x ∈ l, x.1 = 3 ∧ x.2.1 = o.2.1
  | [], _, o, ho => by cases ho
  | y :: r, h, o, ho => by
    simp only [opsFrom, Bool.and_eq_true] at h
    rcases List.mem_cons.1 ho with rfl | ho
    · by_cases h3 : o.1 = 3
      · exact ⟨o, by simp, h3, rfl⟩
      · have hc := h.2.1
        simp only [condT, if_neg h3, List.any_eq_true] at hc
        obtain ⟨x, hx, hd⟩ := hc
        simp only [doneT, Bool.and_eq_true, decide_eq_true_eq] at hd
        exact ⟨x, List.mem_cons_of_mem _ hx, hd.2, hd.1⟩
    · obtain ⟨x, hx, a, b⟩ := txn_commits h.2.2 o ho
      exact ⟨x, List.mem_cons_of_mem _ hx, a, b⟩
theorem opsFrom_ok' : ∀ {l : List OpT}, opsFrom l = true → ∀ o ∈ l, opOk o = true
  | [], _, o, ho => by cases ho
  | x :: l, h, o, ho => by
    simp only [opsFrom, Bool.and_eq_true] at h
    rcases List.mem_cons.1 ho with rfl | ho
    · exact h.1
    · exact opsFrom_ok' h.2.2 o ho
theorem t8_mem {t : Int} : t ∈ t8 ↔ 1 ≤ t ∧ t ≤ 8 := by
  simp only [t8, List.mem_map, List.mem_range]
  constructor
  · rintro ⟨i, h, rfl⟩; omega
  · rintro ⟨h1, h2⟩; exact ⟨(t - 1).toNat, by omega, by omega⟩
theorem t8_lt : t8.Pairwise (· < ·) := by decide
theorem txns_mem {l : List OpT} {t : Int} : t ∈ txnsB l ↔ (1 ≤ t ∧ t ≤ 8) ∧ ∃ o ∈ l, o.2.1 = t := by simp [txnsB, List.mem_filter, t8_mem, txB]
theorem txns_lt (l : List OpT) : (txnsB l).Pairwise (· < ·) := t8_lt.filter _
theorem txns_nodup (l : List OpT) : (txnsB l).Nodup := (txns_lt l).imp fun h => by omega
theorem sort_le (l : List Int) : (List.mergeSort l leI).Pairwise (· ≤ ·) := by
  have := List.pairwise_mergeSort (le := leI) (fun a b c h1 h2 => by simp only [leI, decide_eq_true_eq] at *; omega) (fun a b => by simp only [leI, Bool.or_eq_true, decide_eq_true_eq]; omega) l
  exact this.imp fun h => by simpa [leI] using h
theorem sort_unique {a b : List Int} (hb : b.Pairwise (· < ·)) (hp : a.Perm b) : List.mergeSort a leI = b := by
  refine List.Perm.eq_of_pairwise (le := (· ≤ ·)) (fun x y _ _ h1 h2 => by omega) (sort_le a) (hb.imp fun h => by omega) ((List.mergeSort_perm a leI).trans hp)
theorem txns_eq {l : List OpT} (h : opsB l = true) : List.mergeSort (commitsB l) leI = txnsB l := by
  simp only [opsB, Bool.and_eq_true] at h
  refine sort_unique (txns_lt l) ((List.perm_ext_iff_of_nodup (commits_nodup h.2) (txns_nodup l)).2 fun t => ?_)
  rw [commits_mem, txns_mem]
  constructor
  · rintro ⟨o, ho, _, rfl⟩
    exact ⟨opOk_txn (opsFrom_ok' h.2 o ho), o, ho, rfl⟩
  · rintro ⟨_, o, ho, rfl⟩
    obtain ⟨x, hx, a, b⟩ := txn_commits h.2 o ho
    exact ⟨x, hx, a, b⟩

/-! ### mtext -/
theorem wrap_i64 {x : Int} (h0 : -9223372036854775808 ≤ x) (h1 : x ≤ 9223372036854775807) : IntKind.wrap .i64 x = x := by
  rw [← wrapK_eq]; unfold wrapK; rw [if_pos rfl]; exact wrap_of h0 h1
theorem mt_ex : ∀ (n : Nat) (acc : ByteArray), acc.size + n ≤ 1099511627776 → ∃ r, Ev (fun k => laws_markText_h4 k (n : Int) acc) r := by
  intro n
  induction n using Nat.strongRecOn with
  | ind n ih =>
    intro acc ha
    by_cases h0 : n = 0
    · subst h0
      refine ⟨ByteArray.mk (Array.mk (List.cons 109 [])) ++ acc, ev_last fun k => ?_⟩
      rw [laws_markText_h4_eq, if_neg (by omega), if_pos (by have : (ByteArray.mk (Array.mk (List.cons 109 []))).size = 1 := rfl; omega)]
    · have hd : Int.tdiv (n : Int) 10 = ((n / 10 : Nat) : Int) := by rw [Int.tdiv_eq_ediv_of_nonneg (by omega)]; omega
      obtain ⟨r, hr⟩ := ih (n / 10) (by omega) (bytesOf [IntKind.wrap .u8 (wrap64 (48 + Int.tmod (n : Int) 10))] ++ acc) (by
        rw [ByteArray.size_append]
        have : (bytesOf [IntKind.wrap .u8 (wrap64 (48 + Int.tmod (n : Int) 10))]).size = 1 := rfl
        omega)
      refine ⟨r, ev_shift ?_⟩
      simp only [laws_markText_h4_eq, ev_ite_iff, hd, wrap_i64 (x := ((n / 10 : Nat) : Int)) (by omega) (by omega)]
      have : (bytesOf [IntKind.wrap .u8 (wrap64 (48 + Int.tmod (n : Int) 10))]).size = 1 := rfl
      rw [if_pos (by omega), if_pos (by omega)]
      exact hr
theorem mark_ex (n : Int) (hn : n ≤ 1073741824) : ∃ r, Ev (fun k => laws_markText k n) r := by
  by_cases h : n ≤ 0
  · exact ⟨_, ev_congr (fun k => laws_markText_eq k n) (ev_if_pos h (ev_some _))⟩
  · obtain ⟨r, hr⟩ := mt_ex n.toNat (ByteArray.mk (Array.mk [])) (by have : (ByteArray.mk (Array.mk [])).size = 0 := rfl; omega)
    refine ⟨r, ev_congr (fun k => laws_markText_eq k n) (ev_if_neg h ?_)⟩
    rw [show ((n.toNat : Nat) : Int) = n by omega] at hr
    exact hr
open Classical in
noncomputable def mtx (n : Int) : ByteArray := if h : ∃ r, Ev (fun k => laws_markText k n) r then Classical.choose h else ByteArray.mk (Array.mk [])
theorem mtx_ev (n : Int) (hn : n ≤ 1073741824) : Ev (fun k => laws_markText k n) (mtx n) := by
  have h := mark_ex n hn
  unfold mtx
  rw [dif_pos h]
  exact Classical.choose_spec h

/-! ### markop -/
noncomputable def emOp (m : Int) : OpT := (m, m + 1, mtx (m + 2))
theorem markOpS_ev (l : List OpT) (m : Int) (h0 : 0 ≤ m) (hm : m + 3 * l.length ≤ 1073741824) : Ev (fun k => laws_markOpS k l m) (mkList emOp m 3 l.length, m + 3 * (l.length : Int)) := by
  refine ev_congr (fun k => laws_markOpS_eq k l m) ?_
  refine mark_loop (fun k l c i => laws_markOpS_h2 k l c i) emOp m 3 l.length (fun k xs c hx => ?_) (fun n xs r hn hx H => ?_) l rfl
  · rw [laws_markOpS_h2_eq, if_neg (by omega)]
  · have e1 : wrap64 (m + 3 * (n : Int) + 1) = m + 3 * (n : Int) + 1 := wrap_of (by omega) (by omega)
    have e2 : wrap64 (m + 3 * (n : Int) + 1 + 1) = m + 3 * (n : Int) + 2 := by rw [wrap_of (by omega) (by omega)]; omega
    have e3 : wrap64 (m + 3 * (n : Int) + 2 + 1) = m + 3 * ((n + 1 : Nat) : Int) := by rw [wrap_of (by omega) (by omega)]; omega
    have hnx : n < xs.length := by omega
    have d1 : (n : Int) < (l.length : Int) := by omega
    have d2 : (n : Int) < (xs.length : Int) := by omega
    have d3 : (0 : Int) ≤ (n : Int) := by omega
    refine ev_shift ?_
    simp only [laws_markOpS_h2_eq, ev_ite_iff, Int.toNat_natCast, e1, e2, e3, wrap_nat (show n < 9223372036854775807 by omega), rdT_set (e := OpK) hnx, List.length_set, List.set_set, if_pos d2, if_pos d3, ev_bind_iff (mtx_ev (m + 3 * (n : Int) + 2) (by omega))]
    exact H
theorem heldOpS_ev (m : Int) (N : Nat) (h0 : 0 ≤ m) (hm : m + 3 * N ≤ 1073741824) : Ev (fun k => laws_heldOpS k (mkList emOp m 3 N) m) (m + 3 * (N : Int)) := by
  refine ev_congr (fun k => laws_heldOpS_eq k _ m) ?_
  have hl := mkList_len emOp m 3 N
  refine held_loop (fun k c i => laws_heldOpS_h2 k (mkList emOp m 3 N) c i) emOp m 3 N (fun k c => ?_) (fun n r hn hx H => ?_)
  · rw [laws_heldOpS_h2_eq, if_neg (by omega)]
  · have e1 : wrap64 (m + 3 * (n : Int) + 1) = m + 3 * (n : Int) + 1 := wrap_of (by omega) (by omega)
    have e2 : wrap64 (m + 3 * (n : Int) + 1 + 1) = m + 3 * (n : Int) + 2 := by rw [wrap_of (by omega) (by omega)]; omega
    have e3 : wrap64 (m + 3 * (n : Int) + 2 + 1) = m + 3 * ((n + 1 : Nat) : Int) := by rw [wrap_of (by omega) (by omega)]; omega
    have d1 : (n : Int) < ((mkList emOp m 3 N).length : Int) := by omega
    have d3 : (0 : Int) ≤ (n : Int) := by omega
    refine ev_shift ?_
    simp only [laws_heldOpS_h2_eq, ev_ite_iff, ev_some_iff, ev_none_iff, e1, e2, e3, wrap_nat (show n < 9223372036854775807 by omega), rdT_get (e := OpK) hx, if_pos d1, if_pos d3, ev_bind_iff (mtx_ev (m + 3 * (n : Int) + 2) (by omega)), emOp]
    simpa using H

/-! ### markint -/
theorem markIntS_ev (l : List Int) (m : Int) (h0 : 0 ≤ m) (hm : m + l.length ≤ 1073741824) : Ev (fun k => laws_markIntS k l m) (mkList (fun k => k) m 1 l.length, m + 1 * (l.length : Int)) := by
  refine ev_congr (fun k => laws_markIntS_eq k l m) ?_
  refine mark_loop (fun k l c i => laws_markIntS_h2 k l c i) (fun k => k) m 1 l.length (fun k xs c hx => ?_) (fun n xs r hn hx H => ?_) l rfl
  · rw [laws_markIntS_h2_eq, if_neg (by omega)]
  · refine ev_shift ?_
    simp only [laws_markIntS_h2_eq, ev_ite_iff, Int.toNat_natCast, wrap_nat (show n < 9223372036854775807 by omega), wrap_of (x := m + 1 * (n : Int) + 1) (by omega) (by omega)]
    rw [if_pos (by omega), if_pos (by omega), if_pos (by omega)]
    rw [show m + 1 * (n : Int) + 1 = m + 1 * ((n + 1 : Nat) : Int) by omega]
    exact H

/-! ### serialops -/
/-- what a run in some order is -/
def buildB (l : List OpT) (order : List Int) : List OpT := order.flatMap fun t => l.filter fun o => decide (o.2.1 = t)
def ordB (T : List Int) : List Int → List Int → Bool
  | _, [] => true
  | pre, t :: r => hasB T t && (!hasB pre t && ordB T (pre ++ [t]) r)
theorem ordB_iff {T : List Int} : ∀ {r pre : List Int}, ordB T pre r = true ↔ (∀ t ∈ r, t ∈ T) ∧ r.Nodup ∧ ∀ t ∈ r, t ∉ pre
  | [], pre => by simp [ordB]
  | t :: r, pre => by
    simp only [ordB, Bool.and_eq_true, Bool.not_eq_true', ordB_iff (r := r), hasB_iff, List.mem_cons, List.nodup_cons]
    have hb : hasB pre t = false ↔ t ∉ pre := by rw [← hasB_iff]; simp
    rw [hb]
    constructor
    · rintro ⟨h1, h2, h3, h4, h5⟩
      refine ⟨fun x hx => ?_, ⟨fun hm => h5 t hm (by simp), h4⟩, fun x hx => ?_⟩
      · rcases hx with rfl | hx
        · exact h1
        · exact h3 x hx
      · rcases hx with rfl | hx
        · exact h2
        · exact fun h => h5 x hx (List.mem_append_left _ h)
    · rintro ⟨h1, ⟨h2, h3⟩, h4⟩
      refine ⟨h1 t (.inl rfl), h4 t (.inl rfl), fun x hx => h1 x (.inr hx), h3, fun x hx hm => ?_⟩
      rcases List.mem_append.1 hm with hm | hm
      · exact h4 x (.inr hx) hm
      · have := List.mem_singleton.1 hm; subst this; exact h2 hx
theorem sorted_iff {l : List OpT} {order : List Int} : List.mergeSort order leI = txnsB l ↔ order.length = (txnsB l).length ∧ ordB (txnsB l) [] order = true := by
  rw [ordB_iff]
  constructor
  · intro h
    have hp : order.Perm (txnsB l) := by rw [← h]; exact (List.mergeSort_perm order leI).symm
    exact ⟨hp.length_eq, fun t ht => hp.mem_iff.1 ht, hp.nodup_iff.2 (txns_nodup l), fun t _ h => by cases h⟩
  · rintro ⟨h1, h2, h3, _⟩
    refine sort_unique (txns_lt l) ((List.perm_ext_iff_of_nodup h3 (txns_nodup l)).2 fun t => ⟨h2 t, fun ht => ?_⟩)
    by_cases hm : t ∈ order
    · exact hm
    · have := List.Nodup.length_le_of_subset (l₁ := t :: order) (l₂ := txnsB l) (List.nodup_cons.2 ⟨hm, h3⟩) (fun x hx => by
        rcases List.mem_cons.1 hx with rfl | hx
        · exact ht
        · exact h2 x hx)
      simp at this
      omega
section
variable {e : Kind}
/-- the run built: two loops -/
theorem build_ev {H1 : Nat → List OpT → List OpT → List Int → Int → Int → Option (List OpT × Bool)} {H2 : Nat → List OpT → List OpT → Int → List Int → Int → Int → List OpT → Int → Int → Option (List OpT × Bool)}
    (h1 : ∀ k l out ord ln i, H1 (k + 1) l out ord ln i = if i < ln then if 0 ≤ i then if i < (ord.length : Int) then H2 k l out (rdT (.int .i64) ord i) ord ln i l (l.length : Int) 0 else none else none else some (out, true))
    (h2 : ∀ k l out t ord ln i l2 ln2 j, H2 (k + 1) l out t ord ln i l2 ln2 j = if j < ln2 then if 0 ≤ j then if j < (l2.length : Int) then if (rdT OpK l2 j).2.1 = t then if out.length + (List.cons (rdT OpK l2 j) []).length ≤ 4398046511104 then H2 k l (out ++ List.cons (rdT OpK l2 j) []) t ord ln i l2 ln2 (wrap64 (j + 1)) else none else H2 k l out t ord ln i l2 ln2 (wrap64 (j + 1)) else none else none else H1 k l out ord ln (wrap64 (i + 1)))
    (l : List OpT) (order : List Int) (hl : l.length ≤ 60) (ho : order.length ≤ 1048576) : Ev (fun k => H1 k l [] order (order.length : Int) 0) (buildB l order, true) := by
  have key := drop_ind0 order (fun n rest => ∀ out : List OpT, out.length ≤ n * 60 → Ev (fun k => H1 k l out order (order.length : Int) (n : Int)) (out ++ buildB l rest, true)) ?_ ?_
  · exact key [] (by simp)
  · intro out _
    exact ev_last fun k => by rw [h1, if_neg (by omega)]; simp [buildB]
  · intro n t rest hn hx hd ih out hout
    have hin := drop_ind0 l (fun j rs => ∀ out : List OpT, out.length ≤ n * 60 + j → Ev (fun k => H2 k l out t order (order.length : Int) (n : Int) l (l.length : Int) (j : Int)) (out ++ (rs.filter fun o => decide (o.2.1 = t)) ++ buildB l rest, true)) ?_ ?_
    · refine ev_shift ?_
      simp only [h1, rdT_get (e := .int .i64) hx, ev_ite_iff, ev_none_iff]
      rw [if_pos (by omega), if_pos (by omega), if_pos (by omega)]
      have := hin out (by omega)
      simpa [buildB] using this
    · intro out ho2
      refine ev_shift ?_
      simp only [h2, ev_ite_iff, wrap_nat (show n < 9223372036854775807 by omega)]
      rw [if_neg (by omega)]
      simpa using ih out (by omega)
    · intro j o rs hj hx2 hd2 ih2 out ho2
      refine ev_shift ?_
      simp only [h2, rdT_get (e := OpK) hx2, wrap_nat (show j < 9223372036854775807 by omega), ev_ite_iff, ev_none_iff]
      rw [if_pos (by omega), if_pos (by omega), if_pos (by omega)]
      by_cases h : o.2.1 = t
      · rw [if_pos h, if_pos (by simp; omega)]
        have := ih2 (out ++ [o]) (by simp; omega)
        simpa [h] using this
      · rw [if_neg h]
        have := ih2 out (by omega)
        simpa [h] using this
end
theorem buildB_len (l : List OpT) (order : List Int) : (buildB l order).length ≤ order.length * l.length := by
  induction order with
  | nil => simp [buildB]
  | cons t r ih =>
    simp only [buildB, List.flatMap_cons, List.length_append, List.length_cons, Nat.add_mul, Nat.one_mul] at ih ⊢
    have := List.length_filter_le (fun o : OpT => decide (o.2.1 = t)) l
    omega
def serB (l : List OpT) (order : List Int) : List OpT × Bool := cond (opsB l && (decide (order.length = (txnsB l).length) && ordB (txnsB l) [] order)) (buildB l order, true) ([], false)
theorem opsB_len {l : List OpT} (h : opsB l = true) : l.length ≤ 60 := by simp only [opsB, Bool.and_eq_true, decide_eq_true_eq] at h; exact h.1
theorem txnsB_len (l : List OpT) : (txnsB l).length ≤ 8 := by
  have := List.length_filter_le (txB l) t8
  have h8 : t8.length = 8 := rfl
  unfold txnsB; omega
theorem specSer_ev (l : List OpT) (order : List Int) (hl : l.length ≤ 1048576) (ho : order.length ≤ 1048576) (hk : sizesO l) : Ev (fun k => spec_SerialOps k l order) (serB l order) := by
  refine ev_congr (fun k => spec_SerialOps_eq k l order) ?_
  simp only [ev_bind_iff (l3Txns_ev l hl), ev_bind_iff (specOps_ev l hl hk), ev_ite_iff, ev_some_iff]
  unfold serB
  have ht := txnsB_len l
  cases hb : opsB l with
  | false => simp
  | true =>
    rw [if_neg (by simp)]
    by_cases hlen : order.length = (txnsB l).length
    · rw [if_neg (by simp [hlen]), decide_eq_true hlen]
      have key := drop_ind0 order (fun n rest => Ev (fun k => spec_SerialOps_h5 k l order (txnsB l) order (order.length : Int) (n : Int)) (cond (ordB (txnsB l) (order.take n) rest) (buildB l order, true) ([], false))) ?_ ?_
      · exact key
      · refine ev_shift ?_
        simp only [spec_SerialOps_h5_eq, ev_ite_iff]
        rw [if_neg (by omega)]
        exact build_ev (H1 := spec_SerialOps_h12) (H2 := spec_SerialOps_h15) spec_SerialOps_h12_eq spec_SerialOps_h15_eq l order (opsB_len hb) ho
      · intro n t rest hn hx hd ih
        refine ev_shift ?_
        simp only [spec_SerialOps_h5_eq, rdT_get (e := .int .i64) hx, wrap_nat (show n < 9223372036854775807 by omega), Int.toNat_natCast, Int.toNat_zero, List.drop_zero, ev_ite_iff, ev_none_iff, ev_some_iff, ev_bind_iff (l1Has_ev (txnsB l) t (by omega)), ev_bind_iff (l1Has_ev (order.take n) t (by simp; omega))]
        rw [if_pos (by omega), if_pos (by omega), if_pos (by omega), if_pos (show (0 : Int) ≤ (n : Int) by omega), if_pos (show (n : Int) ≤ (order.length : Int) by omega)]
        rw [take_snoc hx] at ih
        simp only [ordB]
        cases hasB (txnsB l) t with
        | false => rw [if_pos (by rfl)]; rfl
        | true =>
          rw [if_neg (by simp)]
          cases hasB (order.take n) t with
          | true => rw [if_pos rfl]; rfl
          | false => rw [if_neg (by simp)]; exact ih
    · rw [if_pos (by omega), decide_eq_false hlen]; rfl
theorem equal_ev (a b : List Int) (ha : a.length ≤ 140737488355328) : Ev (fun k => slices_Equal k a b) (decide (a = b)) := by
  refine ev_congr (fun k => slices_Equal_eq k a b) ?_
  simp only [ev_ite_iff, ev_some_iff]
  by_cases hlen : a.length = b.length
  · rw [if_neg (by simp [hlen])]
    have key := up_ind a.length (fun n => (a.take n = b.take n) → Ev (fun k => slices_Equal_h4 k a b (a.length : Int) (n : Int)) (decide (a = b))) ?_ ?_ 0 (by omega)
    · exact key rfl
    · intro h
      rw [List.take_length, hlen, List.take_length] at h
      exact ev_last fun k => by rw [slices_Equal_h4_eq, if_neg (by omega)]; simp [h]
    · intro n hn ih h
      refine ev_shift ?_
      have h1 : a[n]? = some a[n] := List.getElem?_eq_getElem hn
      have h2 : b[n]? = some (b[n]'(by omega)) := List.getElem?_eq_getElem (by omega)
      simp only [slices_Equal_h4_eq, rdT_get (e := .int .i64) h1, rdT_get (e := .int .i64) h2, wrap_nat (show n < 9223372036854775807 by omega), ev_ite_iff, ev_none_iff, ev_some_iff]
      rw [if_pos (by omega), if_pos (by omega), if_pos (by omega), if_pos (by omega), if_pos (by omega)]
      by_cases he : a[n] = b[n]'(by omega)
      · rw [if_neg (by simp [he])]
        exact ih (by rw [take_snoc h1, take_snoc h2, h, he])
      · rw [if_pos he]
        symm
        apply decide_eq_false
        intro hab
        subst hab
        exact he rfl
  · rw [if_pos (by omega)]
    symm
    apply decide_eq_false
    intro hab
    subst hab
    exact hlen rfl
theorem implSer_ev (l : List OpT) (order : List Int) (hl : l.length ≤ 1048576) (ho : order.length ≤ 1048576) (hk : sizesO l) : Ev (fun k => impl_SerialOps k l order) (serB l order) := by
  have hsort : gvSortInt ([] ++ order) = some (List.mergeSort order leI, ()) := by unfold gvSortInt; rw [List.nil_append, if_pos (by omega)]; rfl
  refine ev_congr (fun k => impl_SerialOps_eq k l order) ?_
  simp only [hsort, Option.bind_some, ev_bind_iff (implOps_ev l hl hk), ev_ite_iff, ev_some_iff, ev_none_iff, ev_bind_iff (txnsOf_ev l hl), ev_bind_iff (equal_ev (List.mergeSort order leI) _ (by rw [List.length_mergeSort]; omega))]
  unfold serB
  cases hb : opsB l with
  | false => simp
  | true =>
    rw [if_neg (by simp), if_pos (by omega), txns_eq hb]
    have hs := sorted_iff (l := l) (order := order)
    by_cases h : List.mergeSort order leI = txnsB l
    · obtain ⟨h1, h2⟩ := hs.1 h
      rw [decide_eq_true h, decide_eq_true h1, h2, if_neg (by simp)]
      exact build_ev (H1 := impl_SerialOps_h9) (H2 := impl_SerialOps_h12) impl_SerialOps_h9_eq impl_SerialOps_h12_eq l order (opsB_len hb) ho
    · rw [decide_eq_false h, if_pos (by simp)]
      have : (decide (order.length = (txnsB l).length) && ordB (txnsB l) [] order) = false := by
        cases hq : (decide (order.length = (txnsB l).length) && ordB (txnsB l) [] order) with
        | false => rfl
        | true =>
          simp only [Bool.and_eq_true, decide_eq_true_eq] at hq
          exact absurd (hs.2 hq) h
      rw [this]; rfl
theorem serB_len (l : List OpT) (order : List Int) : (serB l order).1.length ≤ 480 := by
  unfold serB
  cases h : (opsB l && (decide (order.length = (txnsB l).length) && ordB (txnsB l) [] order)) with
  | false => simp
  | true =>
    simp only [Bool.and_eq_true, decide_eq_true_eq] at h
    have h1 := opsB_len h.1
    have h2 := txnsB_len l
    have h3 := buildB_len l order
    have : order.length * l.length ≤ 8 * 60 := Nat.mul_le_mul (by omega) h1
    simp only [cond_true]; omega
theorem law (a0 : List OpT) (a1 : List Int) (h0 : okT (.slice OpK) a0) (h1 : okT (.slice (.int .i64)) a1) : ∃ k, laws_FnExactSerialOps k a0 a1 = some true := by
  apply ev_fuel
  refine ev_congr (fun k => laws_FnExactSerialOps_eq k a0 a1) ?_
  have hs : ∀ x ∈ a0, szokOp x := fun x hx => (h0.2 x hx).2.2
  by_cases hl1 : 1048576 < a1.length
  · exact ev_if_pos (by omega) (ev_some _)
  refine ev_if_neg (by omega) ?_
  obtain ⟨v, hv, _, hB⟩ := szOpS_ev a0 (by have := h0.1; omega) hs 1048576 (by omega) (by omega)
  refine ev_bind hv ?_
  by_cases hneg : v < 0
  · exact ev_if_pos hneg (ev_some _)
  refine ev_if_neg hneg ?_
  obtain ⟨hl, _⟩ := hB (by omega)
  have ho : a1.length ≤ 1048576 := by omega
  have spec := specSer_ev a0 a1 hl ho hs
  have impl := implSer_ev a0 a1 hl ho hs
  have to := toOpS_ev a0 hl
  have ti := toIntS_ev a1 ho
  have hlen := serB_len a0 a1
  generalize serB a0 a1 = r at spec impl hlen
  have eqr := eqOpS_ev r.1 (by omega)
  have mk := markOpS_ev r.1 1 (by omega) (by omega)
  have hd := heldOpS_ev 1 r.1.length (by omega) (by omega)
  have m0 := markOpS_ev a0 1 (by omega) (by omega)
  have m1 := markIntS_ev a1 (1 + 3 * (a0.length : Int)) (by omega) (by omega)
  refine ev_bind to (ev_bind ti (ev_bind spec (ev_bind to (ev_bind ti (ev_bind impl (ev_bind eqr (ev_if_neg (by simp) (ev_if_neg (by simp) ?_))))))))
  refine ev_bind to (ev_bind (eqOpS_ev a0 (by omega)) (ev_if_neg (by simp) (ev_bind ti (ev_bind (eqIntS_ev a1 (by omega)) (ev_if_neg (by simp) ?_)))))
  refine ev_bind m0 (ev_bind m1 (ev_if_neg (by simp only; omega) (ev_bind eqr (ev_if_neg (by simp) (ev_if_neg (by simp) ?_)))))
  refine ev_bind mk (ev_bind hd (ev_if_neg (by omega) (ev_if_neg (by simp) ?_)))
  refine ev_bind to (ev_bind ti (ev_bind impl (ev_bind eqr (ev_if_neg (by simp) (ev_if_neg (by simp) ?_)))))
  exact ev_bind hd (ev_if_neg (by omega) (ev_if_neg (by simp) (ev_some _)))

end Go.Proofs.YtobkiheihjdanaaDoor.Fms
