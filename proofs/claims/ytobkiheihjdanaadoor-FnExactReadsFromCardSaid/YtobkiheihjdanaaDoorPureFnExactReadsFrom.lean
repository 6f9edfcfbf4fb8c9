/- The pure statement of the law FnExactReadsFrom: at every list of operations the printed law answers true. -/
import Derived.Test.YtobkiheihjdanaaDoorSayFnExactReadsFrom
import Derived.Test.YtobkiheihjdanaaDoorAid
import Derived.Test.YtobkiheihjdanaaDoorTrim
import Derived.Test.YtobkiheihjdanaaDoorArr
namespace Go.Proofs.YtobkiheihjdanaaDoor.Pure
open Go.RowKit Go.Proofs.YtobkiheihjdanaaDoor.PFnExactReadsFrom Go.Proofs.YtobkiheihjdanaaDoorW.PrintWords Go.Proofs.YtobkiheihjdanaaDoorW.PrintLast Go.Proofs.YtobkiheihjdanaaDoor.Aid Go.Proofs.YtobkiheihjdanaaDoor.MapW
set_option linter.unusedVariables false
set_option linter.unusedSimpArgs false

theorem in_f (a b c : Int) : impl_in.f a b c = some (decide (b ≤ a ∧ a ≤ c)) := by
  unfold impl_in.f
  by_cases h : a ≥ b
  · rw [if_pos h]; simp [h]
  · rw [if_neg h]; simp [h]
theorem l1In_f (a b c : Int) : spec_l1In.f a b c = some (decide (b ≤ a ∧ a ≤ c)) := by
  unfold spec_l1In.f
  by_cases h : a ≥ b
  · rw [if_pos h]; simp [h]
  · rw [if_neg h]; simp [h]

def keyByte (b : UInt8) : Bool := (decide (97 ≤ b.toNat) && decide (b.toNat ≤ 122)) || (decide (48 ≤ b.toNat) && decide (b.toNat ≤ 57))
def keyB (s : ByteArray) : Bool := decide (1 ≤ s.size ∧ s.size ≤ 8) && s.data.toList.all keyByte
def valByte (b : UInt8) : Bool := decide (32 ≤ b.toNat) && decide (b.toNat ≤ 126) && decide (b.toNat ≠ 59)
def valB (s : ByteArray) : Bool := s.data.toList.all valByte && decide (s.size ≤ 20)
def keyCut : List UInt8 := [97, 98, 99, 100, 101, 102, 103, 104, 105, 106, 107, 108, 109, 110, 111, 112, 113, 114, 115, 116, 117, 118, 119, 120, 121, 122, 48, 49, 50, 51, 52, 53, 54, 55, 56, 57]
theorem keyCut_has (b : UInt8) : keyCut.contains b = keyByte b := by
  have h : ∀ n : Fin 256, keyCut.contains (UInt8.ofNat n.val) = keyByte (UInt8.ofNat n.val) := by decide +kernel
  have := h ⟨b.toNat, b.toNat_lt⟩
  simpa using this
theorem drop_nil {α : Type} (p : α → Bool) (l : List α) : (l.dropWhile p).isEmpty = l.all p := by
  induction l with
  | nil => rfl
  | cons x l ih => cases h : p x <;> simp [List.dropWhile_cons, h, ih]
theorem all_drop {α : Type} (p : α → Bool) (l : List α) : (l.dropWhile p).all p = l.all p := by
  induction l with
  | nil => rfl
  | cons x l ih => cases h : p x <;> simp [List.dropWhile_cons, h, ih]
theorem trim_nil (l : List UInt8) : (Go.Lib.trimS l keyCut == []) = l.all keyByte := by
  have e : (Go.Lib.trimS l keyCut == []) = (Go.Lib.trimS l keyCut).isEmpty := by cases Go.Lib.trimS l keyCut <;> rfl
  rw [e]
  unfold Go.Lib.trimS Go.Lib.trimLeftS Go.Lib.trimRightS
  rw [drop_nil, List.all_reverse, all_drop, List.all_reverse]
  congr 1
  funext b
  exact keyCut_has b
theorem isKey_f (s : ByteArray) : impl_isKey.f s = some (keyB s) := by
  unfold impl_isKey.f keyB
  by_cases h1 : (s.size : Int) ≥ 1
  · rw [if_pos h1]
    by_cases h2 : (s.size : Int) ≤ 8
    · rw [if_pos h2]
      have e : MapW.strings_Trim.f s ⟨#[97, 98, 99, 100, 101, 102, 103, 104, 105, 106, 107, 108, 109, 110, 111, 112, 113, 114, 115, 116, 117, 118, 119, 120, 121, 122, 48, 49, 50, 51, 52, 53, 54, 55, 56, 57]⟩ = some ⟨(Go.Lib.trimS s.data.toList keyCut).toArray⟩ := by
        unfold MapW.strings_Trim.f
        rw [if_pos ⟨by omega, by decide, by decide⟩]
        rfl
      rw [e]
      have h3 : 1 ≤ s.size ∧ s.size ≤ 8 := by omega
      simp only [Option.bind_some, toList_data, trim_nil, h3, decide_true, Bool.true_and, and_self]
    · rw [if_neg h2]
      have h3 : ¬ (1 ≤ s.size ∧ s.size ≤ 8) := by omega
      simp only [h3, decide_false, Bool.false_and]
  · rw [if_neg h1]
    have h3 : ¬ (1 ≤ s.size ∧ s.size ≤ 8) := by omega
    simp only [h3, decide_false, Bool.false_and]
theorem l1Key_ev (s : ByteArray) (hs : s.size ≤ 140737488355328) : Ev (fun k => spec_l1Key.f k s) (keyB s) := by
  have key := all_loop (fun k i => spec_l1Key.l0 k s i) s.data.toList keyByte (decide (1 ≤ s.size ∧ s.size ≤ 8)) (ev_last fun k => ?_) (fun n b r hx hn hp H => ?_) (fun n b hx hn hp => ?_)
  · have e : keyB s = (s.data.toList.all keyByte && decide (1 ≤ s.size ∧ s.size ≤ 8)) := by unfold keyB; exact Bool.and_comm _ _
    rw [e]
    exact Ev.congr (fun k => rfl) key
  · simp only [spec_l1Key.l0]
    rw [← size_len, if_neg (by omega), l1In_f]
    simp only [Option.bind_some]
    congr 2
    exact propext ⟨fun h => by omega, fun h => by omega⟩
  · refine Ev.step (fun k => ?_) H
    rw [← size_len] at hn
    simp only [spec_l1Key.l0]
    rw [if_pos (by omega), if_pos (by omega), wrap_nat (by omega), bt_nat hx]
    simp only [keyByte, Bool.or_eq_true, Bool.and_eq_true, decide_eq_true_eq] at hp
    by_cases a1 : (b.toNat : Int) ≥ 97
    · rw [if_pos a1]
      by_cases a2 : (b.toNat : Int) ≤ 122
      · rw [if_pos a2]
      · rw [if_neg a2]; omega
    · rw [if_neg a1, if_pos (by omega), if_pos (by omega)]
  · refine ev_last fun k => ?_
    rw [← size_len] at hn
    simp only [spec_l1Key.l0]
    rw [if_pos (by omega), if_pos (by omega), bt_nat hx]
    simp only [keyByte, Bool.or_eq_false_iff, Bool.and_eq_false_iff, decide_eq_false_iff_not] at hp
    by_cases a1 : (b.toNat : Int) ≥ 97
    · rw [if_pos a1, if_neg (by omega)]
      by_cases a2 : (b.toNat : Int) ≥ 48
      · rw [if_pos a2, if_neg (by omega)]
      · rw [if_neg a2]
    · rw [if_neg a1]
      by_cases a2 : (b.toNat : Int) ≥ 48
      · rw [if_pos a2, if_neg (by omega)]
      · rw [if_neg a2]

abbrev Op1 := S59
theorem rdO {xs : List Op1} {n : Nat} {x : Op1} (h : xs[n]? = some x) : rd_T59 xs (n : Int) = x := by simp [rd_T59, h]
theorem rdP {xs : List S58} {n : Nat} {x : S58} (h : xs[n]? = some x) : rd_T58 xs (n : Int) = x := by simp [rd_T58, h]
def opOk (o : Op1) : Bool := decide (1 ≤ o.f0 ∧ o.f0 ≤ 3) && (decide (1 ≤ o.f1 ∧ o.f1 ≤ 8) && (if o.f0 = 3 then decide (o.f2.toList = []) else keyB o.f2))
def sameT (o x : Op1) : Bool := decide (x.f1 = o.f1)
def doneT (o x : Op1) : Bool := decide (x.f1 = o.f1) && decide (x.f0 = 3)
def condT (o : Op1) (later done : Bool) : Bool := if o.f0 = 3 then !later else done
def opsFrom : List Op1 → Bool
  | [] => true
  | o :: r => opOk o && (condT o (r.any (sameT o)) (r.any (doneT o)) && opsFrom r)
def opsB (l : List Op1) : Bool := decide (l.length ≤ 60) && opsFrom l
theorem keyB_empty {s : ByteArray} (h : s.toList = []) : keyB s = false := by
  rw [toList_data] at h
  have : s.size = 0 := by rw [size_len, h]; rfl
  simp [keyB, this]
def runI (ov se : List Bool) : List Op1 → Bool
  | [] => se == ov
  | o :: r => opOk o && (!(ov.getD o.f1.toNat false) && runI (ov.set o.f1.toNat (o.f0 == 3)) (se.set o.f1.toNat true) r)
theorem opOk_txn {o : Op1} (h : opOk o = true) : 1 ≤ o.f1 ∧ o.f1 ≤ 8 := by
  simp only [opOk, Bool.and_eq_true, decide_eq_true_eq] at h
  exact h.2.1
theorem getD_set (l : List Bool) (n m : Nat) (b : Bool) (hn : n < l.length) : (l.set n b).getD m false = if m = n then b else l.getD m false := by
  by_cases h : m = n
  · subst h; simp [hn]
  · rw [if_neg h]
    simp only [List.getD_eq_getElem?_getD]
    rw [List.getElem?_set_ne (by omega)]
theorem runI_iff : ∀ (r : List Op1) (ov se : List Bool), ov.length = 9 → se.length = 9 → (∀ n, ov.getD n false = true → se.getD n false = true) →
    (runI ov se r = true ↔ opsFrom r = true ∧ ∀ n, n < 9 → ((ov.getD n false = true → ∀ o ∈ r, o.f1.toNat ≠ n) ∧ (se.getD n false = true → ov.getD n false = false → ∃ o ∈ r, o.f1.toNat = n ∧ o.f0 = 3)))
  | [], ov, se, ho, hs, hle => by
    simp only [runI, opsFrom, beq_iff_eq, true_and]
    constructor
    · rintro rfl n _
      exact ⟨fun _ o h => (by cases h), fun h1 h2 => (by rw [h1] at h2; cases h2)⟩
    · intro h
      apply List.ext_getElem?
      intro n
      by_cases hn : n < 9
      · obtain ⟨_, h2⟩ := h n hn
        have hl := hle n
        simp only [List.getD_eq_getElem?_getD] at h2 hl
        rw [List.getElem?_eq_getElem (by omega), List.getElem?_eq_getElem (by omega)] at *
        simp only [Option.getD_some] at h2 hl
        congr 1
        cases e1 : ov[n] with
        | true => exact hl e1
        | false =>
          cases e2 : se[n] with
          | false => rfl
          | true => obtain ⟨o, h, _⟩ := h2 e2 e1; cases h
      · rw [List.getElem?_eq_none (by omega), List.getElem?_eq_none (by omega)]
  | o :: r, ov, se, ho, hs, hle => by
    simp only [runI, opsFrom, Bool.and_eq_true, Bool.not_eq_true']
    by_cases hok : opOk o = true
    · have ht := opOk_txn hok
      have hT : o.f1.toNat < 9 := by omega
      have ih := runI_iff r (ov.set o.f1.toNat (o.f0 == 3)) (se.set o.f1.toNat true) (by simpa using ho) (by simpa using hs) (fun n => by
        rw [getD_set ov _ _ _ (by omega), getD_set se _ _ _ (by omega)]
        split
        · intro _; rfl
        · exact hle n)
      rw [ih]
      have eqv : ∀ x : Op1, x.f1 = o.f1 ↔ x.f1.toNat = o.f1.toNat := fun x => ⟨fun e => by rw [e], fun e => by omega⟩
      have hcond : condT o (r.any (sameT o)) (r.any (doneT o)) = true ↔ ((o.f0 = 3 → ∀ x ∈ r, x.f1.toNat ≠ o.f1.toNat) ∧ (¬ o.f0 = 3 → ∃ x ∈ r, x.f1.toNat = o.f1.toNat ∧ x.f0 = 3)) := by
        unfold condT
        by_cases h3 : o.f0 = 3
        · simp only [if_pos h3, Bool.not_eq_true', List.any_eq_false, sameT, decide_eq_true_eq, eqv]
          constructor
          · intro h; exact ⟨fun _ => h, fun n => absurd h3 n⟩
          · intro h; exact h.1 h3
        · simp only [if_neg h3, List.any_eq_true, doneT, Bool.and_eq_true, decide_eq_true_eq, eqv]
          constructor
          · intro h; exact ⟨fun n => absurd n h3, fun _ => h⟩
          · intro h; exact h.2 h3
      rw [hcond]
      constructor
      · rintro ⟨_, hov, hf, hall⟩
        obtain ⟨t1, t2⟩ := hall o.f1.toNat hT
        rw [getD_set ov _ _ _ (by omega), getD_set se _ _ _ (by omega), if_pos rfl, if_pos rfl] at t2
        rw [getD_set ov _ _ _ (by omega), if_pos rfl] at t1
        refine ⟨⟨hok, ⟨fun h3 => t1 (by simp [h3]), fun h3 => t2 rfl (by simp [h3])⟩, hf⟩, fun n hn => ?_⟩
        by_cases hne : n = o.f1.toNat
        · subst hne
          refine ⟨fun h => (by rw [hov] at h; cases h), fun _ _ => ?_⟩
          by_cases h3 : o.f0 = 3
          · exact ⟨o, List.mem_cons_self, rfl, h3⟩
          · obtain ⟨x, hx, hx2⟩ := t2 rfl (by simp [h3])
            exact ⟨x, List.mem_cons_of_mem _ hx, hx2⟩
        · obtain ⟨s1, s2⟩ := hall n hn
          rw [getD_set ov _ _ _ (by omega), if_neg hne] at s1 s2
          rw [getD_set se _ _ _ (by omega), if_neg hne] at s2
          refine ⟨fun h x hx => ?_, fun h1 h2 => ?_⟩
          · rcases List.mem_cons.1 hx with rfl | hx
            · exact fun e => hne e.symm
            · exact s1 h x hx
          · obtain ⟨x, hx, hx2⟩ := s2 h1 h2
            exact ⟨x, List.mem_cons_of_mem _ hx, hx2⟩
      · rintro ⟨⟨_, ⟨c1, c2⟩, hf⟩, hall⟩
        obtain ⟨t1, t2⟩ := hall o.f1.toNat hT
        have hov : ov.getD o.f1.toNat false = false := by
          cases h : ov.getD o.f1.toNat false with
          | false => rfl
          | true => exact absurd rfl (t1 h o List.mem_cons_self)
        refine ⟨hok, hov, hf, fun n hn => ?_⟩
        rw [getD_set ov _ _ _ (by omega), getD_set se _ _ _ (by omega)]
        by_cases hne : n = o.f1.toNat
        · subst hne
          simp only [if_true]
          refine ⟨fun h => c1 (by simpa using h), fun _ h => c2 (by simpa using h)⟩
        · simp only [if_neg hne]
          obtain ⟨s1, s2⟩ := hall n hn
          refine ⟨fun h x hx => s1 h x (List.mem_cons_of_mem _ hx), fun h1 h2 => ?_⟩
          obtain ⟨x, hx, hx2⟩ := s2 h1 h2
          rcases List.mem_cons.1 hx with rfl | hx
          · exact absurd hx2.1.symm hne
          · exact ⟨x, hx, hx2⟩
    · simp [hok]
theorem runI_start (l : List Op1) : runI (List.replicate 9 false) (List.replicate 9 false) l = opsFrom l := by
  have z : ∀ n, (List.replicate 9 false).getD n false = false := by
    intro n
    simp only [List.getD_eq_getElem?_getD, List.getElem?_replicate]
    split <;> rfl
  rw [Bool.eq_iff_iff, runI_iff l _ _ (by simp) (by simp) (fun n h => h)]
  simp only [z]
  simp
theorem szOpS_ev (l : List S58) (hl : l.length ≤ 140737488355328) (hk : ∀ y ∈ l, y.f2.size ≤ 140737488351232) : ∃ v, Ev (fun k => laws_szOpS.f k l 1048576) v ∧ (1048576 < l.length → v < 0) := by
  have w : wrap64 (1048576 - (l.length : Int)) = 1048576 - l.length := wrap_of (by omega) (by omega)
  obtain ⟨v, h1, h2⟩ := ev_exists_neg (g := fun k => laws_szOpS.f k l 1048576) (c := 1048576 - (l.length : Int)) (f := fun k => laws_szOpS.l0 k l (1048576 - (l.length : Int)) 0) (fun k => by unfold laws_szOpS.f; rw [w]) (fun hc => by
    refine sz_loop (fun k a i => laws_szOpS.l0 k l a i) (fun x a => laws_szOp.f x.f0 x.f1 x.f2 a) l (fun x hx a h0 h1 => ?_) (fun k a => by simp [laws_szOpS.l0]) (fun k n x a v hx hn hv => ?_) _ (by omega) (by omega)
    · have s1 := hk x hx
      have w1 : wrap64 (a - (x.f2.size : Int)) = a - x.f2.size := wrap_of (by omega) (by omega)
      unfold laws_szOp.f
      rw [w1]
      split
      · exact ⟨_, rfl, by omega⟩
      · exact ⟨_, rfl, by omega⟩
    · simp only [laws_szOpS.l0]
      rw [if_pos (by omega), if_pos (by omega), rdP hx, hv, wrap_nat (by omega)]
      rfl)
  exact ⟨v, h1, fun h => h2 (by omega)⟩
def cvO (x : S58) : Op1 := ⟨x.f0, x.f1, x.f2⟩
theorem toOpS_ev (l : List S58) (hl : l.length ≤ 1048576) : Ev (fun k => laws_toOpS.f k l) (l.map cvO) := by
  have key := fill_loop (fun k xs i => laws_toOpS.l0 k l xs i) l cvO (fun k xs => by simp [laws_toOpS.l0]) (fun n x xs hx hn hl' H => ?_) z59
  · refine Ev.congr (fun k => ?_) key
    simp only [laws_toOpS.f]
    rw [if_pos (by omega), if_pos (by omega)]
    simp
  · refine Ev.step (fun k => ?_) H
    simp only [laws_toOpS.l0, laws_toOp.f, Option.bind_some]
    rw [if_pos (by omega), if_pos (by omega), if_pos (by omega), wrap_nat (by omega), rdP hx]
    simp [cvO]
theorem eqOp_f (a b : Int) (c : ByteArray) : laws_eqOp.f a b c a b c = some true := by simp [laws_eqOp.f]
theorem eqOpS_ev (l : List Op1) (hl : l.length ≤ 140737488355328) : Ev (fun k => laws_eqOpS.f k l l) true := by
  have key := eq_loop (fun k i => laws_eqOpS.l0 k l l i) l l (fun _ _ => true) rfl (fun k => by simp [laws_eqOpS.l0]) (fun n x y r hx hy hn _ he H => ?_) (fun n x y hx hy hn _ he => by cases he)
  · rw [zip_self_all (fun _ _ => true) (by simp) l] at key
    refine Ev.congr (fun k => ?_) key
    simp [laws_eqOpS.f]
  · refine Ev.step (fun k => ?_) H
    simp only [laws_eqOpS.l0]
    rw [if_pos (by omega), if_pos (by omega), if_pos (by omega), wrap_nat (by omega), eqOp_f]
    simp
def sizesO (l : List Op1) : Prop := ∀ y ∈ l, y.f2.size ≤ 140737488351232
theorem dec_sixty (n : Nat) : decide ((n : Int) ≤ 60) = decide (n ≤ 60) := by by_cases h : n ≤ 60 <;> simp [h] <;> omega
theorem specOps_ev (l : List Op1) (hl : l.length ≤ 1048576) (hk : sizesO l) : Ev (fun k => spec_GoodOps.f k l) (opsB l) := by
  have key := drop_ind0 l (fun n rest => Ev (fun k => spec_GoodOps.l0 k l l (l.length : Int) (n : Int)) (opsFrom rest)) ?_ ?_
  · unfold spec_GoodOps.f opsB
    by_cases h60 : l.length ≤ 60
    · refine ev_if_neg (by omega) ?_
      simpa [h60] using key
    · refine ev_if_pos (by omega) ?_
      simpa [h60] using ev_some false
  · refine ev_last (fun k => ?_)
    simp only [spec_GoodOps.l0]
    rw [if_neg (by omega)]
    rfl
  · intro n o rest hn ho hd ih
    have s1 := hk o (List.mem_of_getElem? ho)
    have hrest : l.drop (n + 1) = rest := by
      have := List.drop_eq_getElem_cons hn
      rw [hd] at this
      exact (List.cons.inj this).2.symm
    have hno : opsFrom (o :: rest) = (opOk o && (condT o (rest.any (sameT o)) (rest.any (doneT o)) && opsFrom rest)) := rfl
    have inner : Ev (fun k => spec_GoodOps.l1 k l false false l (l.length : Int) (n : Int) rest (rest.length : Int) 0 o.f0 o.f1 o.f2) (condT o (rest.any (sameT o)) (rest.any (doneT o)) && opsFrom rest) := by
      have hlr : rest.length ≤ l.length := by rw [← hrest]; simp
      have key2 := drop_ind0 rest (fun j rs => ∀ a b : Bool, Ev (fun k => spec_GoodOps.l1 k l a b l (l.length : Int) (n : Int) rest (rest.length : Int) (j : Int) o.f0 o.f1 o.f2) (condT o (a || rs.any (sameT o)) (b || rs.any (doneT o)) && opsFrom rest)) ?_ ?_
      · simpa using key2 false false
      · intro a b
        refine ev_shift ?_
        simp only [spec_GoodOps.l1]
        refine ev_if_neg (by omega) ?_
        rw [wrap_nat (by omega)]
        simp only [List.any_nil, Bool.or_false, condT]
        by_cases h3 : o.f0 = 3
        · simp only [if_pos h3]
          cases a with
          | true => simpa using ev_some false
          | false => simpa using ih
        · simp only [if_neg h3]
          cases b with
          | true => simpa using ih
          | false => simpa using ev_some false
      · intro j x rs hj hx _ ih2 a b
        have H := ih2 (a || decide (x.f1 = o.f1)) (b || (decide (x.f1 = o.f1) && decide (x.f0 = 3)))
        have e1 : (a || decide (x.f1 = o.f1) || rs.any (sameT o)) = (a || (x :: rs).any (sameT o)) := by simp [sameT, Bool.or_assoc]
        have e2 : (b || (decide (x.f1 = o.f1) && decide (x.f0 = 3)) || rs.any (doneT o)) = (b || (x :: rs).any (doneT o)) := by simp [doneT, Bool.or_assoc]
        rw [e1, e2] at H
        refine ev_shift (Ev.congr (fun k => ?_) H)
        simp only [spec_GoodOps.l1, rdO hx, wrap_nat (show j < 9223372036854775807 by omega)]
        rw [if_pos (by omega), if_pos (by omega), if_pos (by omega)]
        have bq : ∀ u v : Int, (u == v) = decide (u = v) := fun u v => by by_cases h : u = v <;> simp [h]
        simp only [bq]
        by_cases h1 : x.f1 = o.f1 <;> cases a <;> cases b <;> simp [h1]
    have bad : ∀ q : Bool, q = true → Ev (fun k => spec_GoodOps.j1 k l (n : Int) l (l.length : Int) (n : Int) q o.f0 o.f1 o.f2) false := by
      intro q hq
      exact ev_last (fun k => by simp only [spec_GoodOps.j1]; rw [if_pos hq])
    have good : ∀ q : Bool, q = false → Ev (fun k => spec_GoodOps.j1 k l (n : Int) l (l.length : Int) (n : Int) q o.f0 o.f1 o.f2) (condT o (rest.any (sameT o)) (rest.any (doneT o)) && opsFrom rest) := by
      intro q hq
      refine ev_shift ?_
      simp only [spec_GoodOps.j1, wrap_nat (show n < 9223372036854775807 by omega), Int.toNat_natCast, hrest, Option.bind_some]
      exact ev_if_neg (by simp [hq]) (ev_if_pos (by omega) (ev_if_pos (by omega) inner))
    have fall : opOk o = false → opsFrom (o :: rest) = false := fun h => by rw [hno, h]; rfl
    refine ev_shift ?_
    simp only [spec_GoodOps.l0, rdO ho, l1In_f, Option.bind_some]
    refine ev_if_pos (by omega) (ev_if_pos (by omega) (ev_if_pos (by omega) ?_))
    by_cases b0 : 1 ≤ o.f0 ∧ o.f0 ≤ 3
    · refine ev_if_pos (decide_eq_true b0) ?_
      by_cases b1 : 1 ≤ o.f1 ∧ o.f1 ≤ 8
      · refine ev_if_pos (decide_eq_true b1) ?_
        by_cases b2 : o.f2.toList = []
        · refine ev_if_pos b2 ?_
          by_cases b3 : o.f0 = 3
          · have : opOk o = true := by simp [opOk, b0, b1, b3, b2]
            rw [hno, this, Bool.true_and]
            exact ev_if_pos b3 (good _ rfl)
          · have : opOk o = false := by simp [opOk, b3, keyB_empty b2]
            rw [fall this]
            exact ev_if_neg b3 (bad _ rfl)
        · refine ev_if_neg b2 ?_
          by_cases b3 : o.f0 = 3
          · have : opOk o = false := by simp [opOk, b3, b2]
            rw [fall this]
            exact ev_if_pos b3 (bad _ rfl)
          · refine ev_if_neg b3 (ev_bind (l1Key_ev o.f2 (by omega)) ?_)
            cases b4 : keyB o.f2 with
            | true =>
              have : opOk o = true := by simp [opOk, b0, b1, b3, b4]
              rw [hno, this, Bool.true_and]
              exact good _ rfl
            | false =>
              have : opOk o = false := by simp [opOk, b3, b4]
              rw [fall this]
              exact bad _ rfl
      · have : opOk o = false := by simp [opOk, b1]
        rw [fall this]
        exact ev_if_neg (by simp [b1]) (bad _ rfl)
    · have : opOk o = false := by simp [opOk, b0]
      rw [fall this]
      exact ev_if_neg (by simp [b0]) (bad _ rfl)
theorem implOps_ev (l : List Op1) (hl : l.length ≤ 1048576) (hk : sizesO l) : Ev (fun k => impl_areOps.f k l) (opsB l) := by
  have key := drop_ind0 l (fun n rest => ∀ ov se : List Bool, ov.length = 9 → se.length = 9 → Ev (fun k => impl_areOps.l0 k l l (l.length : Int) (n : Int) ov se) (decide (l.length ≤ 60) && runI ov se rest)) ?_ ?_
  · have h0 : Ev (fun k => impl_areOps.l0 k l l (l.length : Int) 0 (List.replicate 9 false) (List.replicate 9 false)) (opsB l) := by
      have := key (List.replicate 9 false) (List.replicate 9 false) (by simp) (by simp)
      rw [runI_start] at this
      exact this
    exact Ev.congr (fun k => rfl) h0
  · intro ov se ho hs
    refine ev_last (fun k => ?_)
    simp only [impl_areOps.l0]
    rw [if_neg (by omega)]
    by_cases h60 : l.length ≤ 60
    · rw [if_pos (by omega), if_pos hs, if_pos ho]
      simp [h60, runI]
    · rw [if_neg (by omega)]
      simp [h60]
  · intro n o rest hn ho _ ih ov se hov hse
    have s1 := hk o (List.mem_of_getElem? ho)
    have hno : runI ov se (o :: rest) = (opOk o && (!(ov.getD o.f1.toNat false) && runI (ov.set o.f1.toNat (o.f0 == 3)) (se.set o.f1.toNat true) rest)) := rfl
    have fall : opOk o = false → (decide (l.length ≤ 60) && runI ov se (o :: rest)) = false := fun h => by rw [hno, h]; simp
    refine ev_shift ?_
    simp only [impl_areOps.l0, rdO ho, in_f, isKey_f, Option.bind_some, wrap_nat (show n < 9223372036854775807 by omega), arAt]
    refine ev_if_pos (by omega) (ev_if_pos (by omega) (ev_if_pos (by omega) ?_))
    by_cases b0 : 1 ≤ o.f0 ∧ o.f0 ≤ 3
    · refine ev_if_pos (decide_eq_true b0) ?_
      by_cases b1 : 1 ≤ o.f1 ∧ o.f1 ≤ 8
      · refine ev_if_pos (decide_eq_true b1) (ev_if_pos (by omega) (ev_if_pos (by omega) (ev_if_pos (by omega) ?_)))
        have H := ih (ov.set o.f1.toNat (o.f0 == 3)) (se.set o.f1.toNat true) (by simpa using hov) (by simpa using hse)
        cases b2 : ov.getD o.f1.toNat false with
        | true =>
          refine ev_if_pos rfl ?_
          rw [hno, b2]
          simpa using ev_some false
        | false =>
          refine ev_if_neg (by simp) ?_
          by_cases b3 : o.f0 = 3
          · refine ev_if_pos b3 ?_
            by_cases b4 : o.f2.toList = []
            · have : opOk o = true := by simp [opOk, b0, b1, b3, b4]
              rw [hno, this, b2, Bool.true_and, Bool.not_false, Bool.true_and]
              exact ev_if_pos b4 (ev_if_pos (by omega) H)
            · rw [fall (by simp [opOk, b3, b4])]
              exact ev_if_neg b4 (ev_some _)
          · refine ev_if_neg b3 ?_
            cases b4 : keyB o.f2 with
            | true =>
              have : opOk o = true := by simp [opOk, b0, b1, b3, b4]
              rw [hno, this, b2, Bool.true_and, Bool.not_false, Bool.true_and]
              exact ev_if_pos rfl (ev_if_pos (by omega) H)
            | false =>
              rw [fall (by simp [opOk, b3, b4])]
              exact ev_if_neg (by simp) (ev_some _)
      · rw [fall (by simp [opOk, b1])]
        exact ev_if_neg (by simp [b1]) (ev_some _)
    · rw [fall (by simp [opOk, b0])]
      exact ev_if_neg (by simp [b0]) (ev_some _)

/-- The last write of a key ahead of a place: its transaction and its place. -/
def lastW (l : List Op1) (key : List UInt8) : Nat → Int × Int
  | 0 => (0, -1)
  | n + 1 => match l[n]? with
    | some o => if o.f0 = 2 ∧ o.f2.toList = key then (o.f1, (n : Int)) else lastW l key n
    | none => lastW l key n
theorem lastW_mem (l : List Op1) (key : List UInt8) : ∀ n, (lastW l key n).1 ≠ 0 → ∃ (k : Nat) (o : Op1), l[k]? = some o ∧ o.f1 = (lastW l key n).1
  | 0, h => by simp [lastW] at h
  | n + 1, h => by
    unfold lastW at h ⊢
    split
    · rename_i o ho
      split
      · exact ⟨n, o, ho, rfl⟩
      · rename_i hq
        simp only [ho, if_neg hq] at h
        exact lastW_mem l key n h
    · rename_i ho
      simp only [ho] at h
      exact lastW_mem l key n h
theorem l3Last_ev (l : List Op1) (key : ByteArray) (hl : l.length ≤ 1048576) (i : Nat) (hi : i ≤ l.length) : Ev (fun k => spec_l3Last.f k l (i : Int) key) (lastW l key.toList i) := by
  have up : ∀ j, j ≤ l.length → Ev (fun k => spec_l3Last.l0 k l key ((j : Int) - 1)) (lastW l key.toList j) := by
    intro j
    induction j with
    | zero =>
      intro _
      refine ev_last (fun k => ?_)
      simp only [spec_l3Last.l0]
      rw [if_neg (by omega)]
      rfl
    | succ j ih =>
      intro hj
      have hx : l[j]? = some l[j] := List.getElem?_eq_getElem (by omega)
      generalize l[j] = o at hx
      have e1 : ((j + 1 : Nat) : Int) - 1 = (j : Int) := by omega
      have w : wrap64 ((j : Int) - 1) = (j : Int) - 1 := wrap_of (by omega) (by omega)
      have ih := ih (by omega)
      refine ev_shift ?_
      simp only [spec_l3Last.l0, e1, w, rdO hx, lastW, hx]
      refine ev_if_pos (by omega) (ev_if_pos (by omega) (ev_if_pos (by omega) ?_))
      by_cases h1 : o.f0 = 2
      · refine ev_if_pos h1 ?_
        by_cases h2 : o.f2.toList = key.toList
        · rw [if_pos ⟨h1, h2⟩]
          exact ev_if_pos h2 (ev_some _)
        · rw [if_neg (fun x => h2 x.2)]
          exact ev_if_neg h2 ih
      · rw [if_neg (fun x => h1 x.1)]
        exact ev_if_neg h1 ih
  refine Ev.congr (fun k => ?_) (up i hi)
  unfold spec_l3Last.f
  rw [wrap_of (by omega) (by omega)]
theorem writerAt_ev (l : List Op1) (hl : l.length ≤ 1048576) (i : Nat) (e : Op1) (he : l[i]? = some e) : Ev (fun k => impl_writerAt.f k l (i : Int)) (lastW l e.f2.toList i).1 := by
  have hi : i < l.length := (List.getElem?_eq_some_iff.1 he).1
  have up : ∀ j, j ≤ l.length → Ev (fun k => impl_writerAt.l0 k l (i : Int) ((j : Int) - 1)) (lastW l e.f2.toList j).1 := by
    intro j
    induction j with
    | zero =>
      intro _
      refine ev_last (fun k => ?_)
      simp only [impl_writerAt.l0]
      rw [if_neg (by omega)]
      rfl
    | succ j ih =>
      intro hj
      have hx : l[j]? = some l[j] := List.getElem?_eq_getElem (by omega)
      generalize l[j] = o at hx
      have e1 : ((j + 1 : Nat) : Int) - 1 = (j : Int) := by omega
      have w : wrap64 ((j : Int) - 1) = (j : Int) - 1 := wrap_of (by omega) (by omega)
      have ih := ih (by omega)
      refine ev_shift ?_
      simp only [impl_writerAt.l0, e1, w, rdO hx, rdO he, lastW, hx]
      refine ev_if_pos (by omega) (ev_if_pos (by omega) (ev_if_pos (by omega) ?_))
      by_cases h1 : o.f0 = 2
      · refine ev_if_pos h1 (ev_if_pos (by omega) (ev_if_pos (by omega) ?_))
        by_cases h2 : o.f2.toList = e.f2.toList
        · rw [if_pos ⟨h1, h2⟩]
          exact ev_if_pos h2 (ev_some _)
        · rw [if_neg (fun x => h2 x.2)]
          exact ev_if_neg h2 ih
      · rw [if_neg (fun x => h1 x.1)]
        exact ev_if_neg h1 ih
  refine Ev.congr (fun k => ?_) (up i (by omega))
  unfold impl_writerAt.f
  rw [wrap_of (by omega) (by omega)]

/-! ### the text of a mark -/
theorem strOfNums_size (l : List Int) : (strOfNums l).size = l.length := by
  show ((l.map fun n => UInt8.ofNat n.toNat).toArray).size = l.length
  simp
theorem markText_some (c : Int) (h0 : 0 ≤ c) (h1 : c ≤ 4611686018427387904) : ∃ t, Ev (fun k => laws_markText.f k c) t := by
  unfold laws_markText.f
  by_cases hc : c ≤ 0
  · exact ⟨_, ev_if_pos hc (ev_some _)⟩
  · have key : ∀ d : Nat, ∀ c : Int, 0 ≤ c → c.toNat = d → ∀ t : ByteArray, (t.size : Int) + c ≤ 4611686018427387905 → ∃ r, Ev (fun k => laws_markText.l0 k c t) r := by
      intro d
      induction d using Nat.strongRecOn with
      | ind d ih =>
        intro c h0 hd t hs
        by_cases hp : c > 0
        · have hdiv : Int.tdiv c 10 = c / 10 := Int.tdiv_eq_ediv_of_nonneg h0
          have hw : wrap64 (Int.tdiv c 10) = c / 10 := by rw [hdiv]; exact wrap_of (by omega) (by omega)
          obtain ⟨r, hr⟩ := ih (c / 10).toNat (by omega) (c / 10) (by omega) rfl ((strOfNums [(wrap64 (48 + (Int.tmod c 10))) % 256]) ++ t) (by
            rw [ByteArray.size_append, strOfNums_size]
            simp only [List.length_singleton]
            omega)
          refine ⟨r, ev_shift ?_⟩
          simp only [laws_markText.l0, Option.bind_some, hw]
          refine ev_if_pos hp (ev_if_pos ?_ hr)
          rw [strOfNums_size]
          simp only [List.length_singleton]
          omega
        · refine ⟨(⟨#[109]⟩ : ByteArray) ++ t, ev_last fun k => ?_⟩
          simp only [laws_markText.l0]
          rw [if_neg hp, if_pos (by omega)]
    obtain ⟨r, hr⟩ := key c.toNat c h0 rfl ⟨#[]⟩ (by
      have : (⟨#[]⟩ : ByteArray).size = 0 := rfl
      omega)
    exact ⟨r, ev_if_neg hc hr⟩
open Classical in
noncomputable def mtext (c : Int) : ByteArray := if h : ∃ t, Ev (fun k => laws_markText.f k c) t then h.choose else ⟨#[]⟩
theorem mtext_ev (c : Int) (h0 : 0 ≤ c) (h1 : c ≤ 4611686018427387904) : Ev (fun k => laws_markText.f k c) (mtext c) := by
  have h := markText_some c h0 h1
  unfold mtext
  rw [dif_pos h]
  exact h.choose_spec

theorem markOpS_ev (l : List Op1) (m : Int) (h0 : 0 ≤ m) (hb : m + 3 * l.length ≤ 4611686018427387904) : Ev (fun k => laws_markOpS.f k l m) (m + 3 * (l.length : Int), mkList (fun c => (⟨c, c + 1, mtext (c + 2)⟩ : Op1)) m 3 l.length) := by
  have key := mark_loop (fun k xs c i => laws_markOpS.l0 k xs c i) (fun c => (⟨c, c + 1, mtext (c + 2)⟩ : Op1)) m 3 l.length (fun k xs c hx => by simp only [laws_markOpS.l0]; rw [if_neg (by omega)]) (fun n xs r hn hx H => by
    have w1 : wrap64 (m + 3 * (n : Int) + 1) = m + 3 * (n : Int) + 1 := wrap_of (by omega) (by omega)
    have w2 : wrap64 (m + 3 * (n : Int) + 1 + 1) = m + 3 * (n : Int) + 2 := by rw [wrap_of (by omega) (by omega)]; omega
    have w3 : wrap64 (m + 3 * (n : Int) + 2 + 1) = m + 3 * ((n + 1 : Nat) : Int) := by rw [wrap_of (by omega) (by omega)]; omega
    refine ev_shift ?_
    simp only [laws_markOpS.l0, w1, w2, w3, wrap_nat (show n < 9223372036854775807 by omega), Option.bind_some, Int.toNat_natCast]
    refine ev_if_pos (by omega) (ev_if_pos (by omega) (ev_bind (mtext_ev (m + 3 * (n : Int) + 2) (by omega) (by omega)) ?_))
    have e1 : ∀ (ys : List Op1) (a : Op1), n < ys.length → rd_T59 (ys.set n a) (n : Int) = a := fun ys a h => rdO (by rw [List.getElem?_set_self h])
    rw [e1 xs _ (by omega), e1 (xs.set n _) _ (by rw [List.length_set]; omega), List.set_set, List.set_set]
    exact H) l rfl
  exact Ev.congr (fun k => rfl) key

abbrev Pr := S68
theorem rdQ {xs : List Pr} {n : Nat} {x : Pr} (h : xs[n]? = some x) : rd_T68 xs (n : Int) = x := by simp [rd_T68, h]
theorem eqPairS_ev (l : List Pr) (hl : l.length ≤ 140737488355328) : Ev (fun k => laws_eqPairS.f k l l) true := by
  have key := eq_loop (fun k i => laws_eqPairS.l0 k l l i) l l (fun _ _ => true) rfl (fun k => by simp [laws_eqPairS.l0]) (fun n x y r hx hy hn _ he H => ?_) (fun n x y hx hy hn _ he => by cases he)
  · rw [zip_self_all (fun _ _ => true) (by simp) l] at key
    refine Ev.congr (fun k => ?_) key
    simp [laws_eqPairS.f]
  · refine Ev.step (fun k => ?_) H
    simp only [laws_eqPairS.l0, laws_eqPair.f]
    rw [if_pos (by omega), if_pos (by omega), if_pos (by omega), wrap_nat (by omega)]
    simp
def emP (c : Int) : Pr := ⟨c, c + 1⟩
theorem markPairS_ev (l : List Pr) (m : Int) (h0 : 0 ≤ m) (hb : m + 2 * l.length ≤ 4611686018427387904) : Ev (fun k => laws_markPairS.f k l m) (m + 2 * (l.length : Int), mkList emP m 2 l.length) := by
  have key := mark_loop (fun k xs c i => laws_markPairS.l0 k xs c i) emP m 2 l.length (fun k xs c hx => by simp only [laws_markPairS.l0]; rw [if_neg (by omega)]) (fun n xs r hn hx H => by
    have w1 : wrap64 (m + 2 * (n : Int) + 1) = m + 2 * (n : Int) + 1 := wrap_of (by omega) (by omega)
    have w2 : wrap64 (m + 2 * (n : Int) + 1 + 1) = m + 2 * ((n + 1 : Nat) : Int) := by rw [wrap_of (by omega) (by omega)]; omega
    refine ev_shift ?_
    simp only [laws_markPairS.l0, w1, w2, wrap_nat (show n < 9223372036854775807 by omega), Option.bind_some, Int.toNat_natCast]
    refine ev_if_pos (by omega) (ev_if_pos (by omega) ?_)
    have e1 : ∀ (ys : List Pr) (a : Pr), n < ys.length → rd_T68 (ys.set n a) (n : Int) = a := fun ys a h => rdQ (by rw [List.getElem?_set_self h])
    rw [e1 xs _ (by omega), List.set_set]
    exact H) l rfl
  exact Ev.congr (fun k => rfl) key
theorem heldPairS_ev (m : Int) (N : Nat) (h0 : 0 ≤ m) (hb : m + 2 * N ≤ 4611686018427387904) : Ev (fun k => laws_heldPairS.f k (mkList emP m 2 N) m) (m + 2 * (N : Int)) := by
  have key := held_loop (fun k c i => laws_heldPairS.l0 k (mkList emP m 2 N) c i) emP m 2 N (fun k c => by simp only [laws_heldPairS.l0, mkList_len]; rw [if_neg (by omega)]) (fun n r hn hx H => by
    have w1 : wrap64 (m + 2 * (n : Int) + 1) = m + 2 * (n : Int) + 1 := wrap_of (by omega) (by omega)
    have w2 : wrap64 (m + 2 * (n : Int) + 1 + 1) = m + 2 * ((n + 1 : Nat) : Int) := by rw [wrap_of (by omega) (by omega)]; omega
    refine ev_shift ?_
    simp only [laws_heldPairS.l0, mkList_len, rdQ hx, w1, w2, wrap_nat (show n < 9223372036854775807 by omega)]
    exact ev_if_pos (by omega) (ev_if_pos (by omega) (ev_if_pos rfl (ev_if_pos rfl H))))
  exact Ev.congr (fun k => rfl) key

def readsRun (l : List Op1) : List Op1 → Nat → List Pr → List Pr
  | [], _, out => out
  | o :: r, n, out => if o.f0 = 1 then readsRun l r (n + 1) (out ++ [⟨(lastW l o.f2.toList n).1, o.f1⟩]) else readsRun l r (n + 1) out
theorem readsRun_len (l : List Op1) : ∀ (r : List Op1) n out, (readsRun l r n out).length ≤ out.length + r.length
  | [], _, out => by simp [readsRun]
  | o :: r, n, out => by
    unfold readsRun
    split
    · have := readsRun_len l r (n + 1) (out ++ [⟨(lastW l o.f2.toList n).1, o.f1⟩])
      simp at this ⊢
      omega
    · have := readsRun_len l r (n + 1) out
      simp at this ⊢
      omega
theorem specReads_ev (l : List Op1) (hl : l.length ≤ 1048576) : Ev (fun k => spec_ReadsFrom.l0 k l [] l (l.length : Int) 0) (readsRun l l 0 [], true) := by
  have key := drop_ind0 l (fun n rest => ∀ out : List Pr, out.length ≤ n → Ev (fun k => spec_ReadsFrom.l0 k l out l (l.length : Int) (n : Int)) (readsRun l rest n out, true)) ?_ ?_
  · exact key [] (by simp)
  · intro out _
    refine ev_last (fun k => ?_)
    simp only [spec_ReadsFrom.l0]
    rw [if_neg (by omega)]
    rfl
  · intro n o rest hn ho _ ih out hout
    refine ev_shift ?_
    simp only [spec_ReadsFrom.l0, rdO ho, wrap_nat (show n < 9223372036854775807 by omega), readsRun]
    refine ev_if_pos (by omega) (ev_if_pos (by omega) (ev_if_pos (by omega) ?_))
    by_cases h1 : o.f0 = 1
    · rw [if_pos h1]
      exact ev_if_pos h1 (ev_bind (l3Last_ev l o.f2 hl n (by omega)) (ev_if_pos (by omega) (ih _ (by simp; omega))))
    · rw [if_neg h1]
      exact ev_if_neg h1 (ih _ (by omega))
theorem implReads_ev (l : List Op1) (hl : l.length ≤ 1048576) : Ev (fun k => impl_ReadsFrom.l0 k l [] l (l.length : Int) 0) (readsRun l l 0 [], true) := by
  have key := drop_ind0 l (fun n rest => ∀ out : List Pr, out.length ≤ n → Ev (fun k => impl_ReadsFrom.l0 k l out l (l.length : Int) (n : Int)) (readsRun l rest n out, true)) ?_ ?_
  · exact key [] (by simp)
  · intro out _
    refine ev_last (fun k => ?_)
    simp only [impl_ReadsFrom.l0]
    rw [if_neg (by omega)]
    rfl
  · intro n o rest hn ho _ ih out hout
    refine ev_shift ?_
    simp only [impl_ReadsFrom.l0, rdO ho, wrap_nat (show n < 9223372036854775807 by omega), readsRun]
    refine ev_if_pos (by omega) (ev_if_pos (by omega) (ev_if_pos (by omega) ?_))
    by_cases h1 : o.f0 = 1
    · rw [if_pos h1]
      exact ev_if_pos h1 (ev_bind (writerAt_ev l hl n o ho) (ev_if_pos (by omega) (ih _ (by simp; omega))))
    · rw [if_neg h1]
      exact ev_if_neg h1 (ih _ (by omega))
def readsB (l : List Op1) : List Pr × Bool := if opsB l = true then (readsRun l l 0 [], true) else ([], false)
theorem readsB_len (l : List Op1) : (readsB l).1.length ≤ l.length := by
  unfold readsB
  split
  · have := readsRun_len l l 0 []
    simpa using this
  · simp
theorem specReadsB_ev (l : List Op1) (hl : l.length ≤ 1048576) (hk : sizesO l) : Ev (fun k => spec_ReadsFrom.f k l) (readsB l) := by
  unfold spec_ReadsFrom.f readsB
  refine ev_bind (specOps_ev l hl hk) ?_
  by_cases h : opsB l = true
  · rw [if_pos h]
    exact ev_if_pos h (specReads_ev l hl)
  · rw [if_neg h]
    exact ev_if_neg h (ev_some _)
theorem implReadsB_ev (l : List Op1) (hl : l.length ≤ 1048576) (hk : sizesO l) : Ev (fun k => impl_ReadsFrom.f k l) (readsB l) := by
  unfold impl_ReadsFrom.f readsB
  refine ev_bind (implOps_ev l hl hk) ?_
  by_cases h : opsB l = true
  · rw [if_pos h]
    exact ev_if_pos h (implReads_ev l hl)
  · rw [if_neg h]
    exact ev_if_neg h (ev_some _)

theorem FnExactReadsFrom : laws_FnExactReadsFrom.Pure := by
  intro l hb hk
  have hl : l.length ≤ 140737488355328 := by omega
  have hs : ∀ y ∈ l, y.f2.size ≤ 140737488351232 := fun y hy => (hk y hy).2.2
  apply Ev.rounds
  unfold laws_FnExactReadsFrom.f
  obtain ⟨v, hv, hv2⟩ := szOpS_ev l hl hs
  refine ev_bind hv ?_
  by_cases hneg : v < 0
  · exact ev_if_pos hneg (ev_some _)
  · refine ev_if_neg hneg ?_
    have hle0 : l.length ≤ 1048576 := by
      by_cases h : 1048576 < l.length
      · exact absurd (hv2 h) hneg
      · omega
    have hto := toOpS_ev l hle0
    have hle : (l.map cvO).length ≤ 1048576 := by simpa using hle0
    have hs2 : sizesO (l.map cvO) := by
      intro y hy
      obtain ⟨x, hx, rfl⟩ := List.mem_map.1 hy
      exact hs x hx
    generalize l.map cvO = m at hto hle hs2
    have len := readsB_len m
    have eq := eqPairS_ev (readsB m).1 (by omega)
    have mk := markPairS_ev (readsB m).1 1 (by omega) (by omega)
    have hd := heldPairS_ev 1 (readsB m).1.length (by omega) (by omega)
    refine ev_bind hto (ev_bind (specReadsB_ev m hle hs2) (ev_bind hto (ev_bind (implReadsB_ev m hle hs2) (ev_bind eq ?_))))
    simp only [if_true, bne_self_eq_false]
    refine ev_shift ?_
    simp only [laws_FnExactReadsFrom.j0, Bool.false_eq_true, if_false]
    refine ev_bind hto (ev_bind (eqOpS_ev m (by omega)) ?_)
    simp only [if_true]
    refine ev_bind (markOpS_ev m 1 (by omega) (by omega)) (ev_if_neg (by simp only; omega) (ev_bind eq ?_))
    simp only [if_true, bne_self_eq_false]
    refine ev_shift ?_
    simp only [laws_FnExactReadsFrom.j1, Bool.false_eq_true, if_false]
    refine ev_bind mk (ev_bind hd (ev_if_neg (by omega) (ev_if_pos rfl ?_)))
    refine ev_bind hto (ev_bind (implReadsB_ev m hle hs2) (ev_bind eq ?_))
    simp only [if_true, bne_self_eq_false]
    refine ev_shift ?_
    simp only [laws_FnExactReadsFrom.j2, Bool.false_eq_true, if_false]
    exact ev_bind hd (ev_if_neg (by omega) (ev_if_pos rfl (ev_some _)))

end Go.Proofs.YtobkiheihjdanaaDoor.Pure
