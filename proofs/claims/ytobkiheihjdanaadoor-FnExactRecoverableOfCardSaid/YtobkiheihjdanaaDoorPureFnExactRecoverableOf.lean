/- The pure statement of the law FnExactRecoverableOf: at every list of operations the printed law answers true. -/
import Derived.Test.YtobkiheihjdanaaDoorSayFnExactRecoverableOf
import Derived.Test.YtobkiheihjdanaaDoorAid
import Derived.Test.YtobkiheihjdanaaDoorTrim
import Derived.Test.YtobkiheihjdanaaDoorArr
namespace Go.Proofs.YtobkiheihjdanaaDoor.Pure
open Go.RowKit Go.Proofs.YtobkiheihjdanaaDoor.PFnExactRecoverableOf Go.Proofs.YtobkiheihjdanaaDoorW.PrintWords Go.Proofs.YtobkiheihjdanaaDoorW.PrintLast Go.Proofs.YtobkiheihjdanaaDoor.Aid Go.Proofs.YtobkiheihjdanaaDoor.MapW
set_option linter.unusedVariables false
set_option linter.unusedSimpArgs false

theorem in_f (a b c : Int) : impl_in.f a b c = some (decide (b ≤ a ∧ a ≤ c)) := by
  unfold impl_in.f
  by_cases h : a ≥ b
  · rw [if_pos h]; simp [h]
  · rw [if_neg h]; simp [h]
theorem l1In_f (a b c : Int) : spec_l1In.f a b c = some (decide (b ≤ a ∧ a ≤ c)) := by
  unfold spec_l1In.f
  by_cases h : a ≥ b
  · rw [if_pos h]; simp [h]
  · rw [if_neg h]; simp [h]

def keyByte (b : UInt8) : Bool := (decide (97 ≤ b.toNat) && decide (b.toNat ≤ 122)) || (decide (48 ≤ b.toNat) && decide (b.toNat ≤ 57))
def keyB (s : ByteArray) : Bool := decide (1 ≤ s.size ∧ s.size ≤ 8) && s.data.toList.all keyByte
def valByte (b : UInt8) : Bool := decide (32 ≤ b.toNat) && decide (b.toNat ≤ 126) && decide (b.toNat ≠ 59)
def valB (s : ByteArray) : Bool := s.data.toList.all valByte && decide (s.size ≤ 20)
def keyCut : List UInt8 := [97, 98, 99, 100, 101, 102, 103, 104, 105, 106, 107, 108, 109, 110, 111, 112, 113, 114, 115, 116, 117, 118, 119, 120, 121, 122, 48, 49, 50, 51, 52, 53, 54, 55, 56, 57]
theorem keyCut_has (b : UInt8) : keyCut.contains b = keyByte b := by
  have h : ∀ n : Fin 256, keyCut.contains (UInt8.ofNat n.val) = keyByte (UInt8.ofNat n.val) := by decide +kernel
  have := h ⟨b.toNat, b.toNat_lt⟩
  simpa using this
theorem drop_nil {α : Type} (p : α → Bool) (l : List α) : (l.dropWhile p).isEmpty = l.all p := by
  induction l with
  | nil => rfl
  | cons x l ih => cases h : p x <;> simp [List.dropWhile_cons, h, ih]
theorem all_drop {α : Type} (p : α → Bool) (l : List α) : (l.dropWhile p).all p = l.all p := by
  induction l with
  | nil => rfl
  | cons x l ih => cases h : p x <;> simp [List.dropWhile_cons, h, ih]
theorem trim_nil (l : List UInt8) : (Go.Lib.trimS l keyCut == []) = l.all keyByte := by
  have e : (Go.Lib.trimS l keyCut == []) = (Go.Lib.trimS l keyCut).isEmpty := by cases Go.Lib.trimS l keyCut <;> rfl
  rw [e]
  unfold Go.Lib.trimS Go.Lib.trimLeftS Go.Lib.trimRightS
  rw [drop_nil, List.all_reverse, all_drop, List.all_reverse]
  congr 1
  funext b
  exact keyCut_has b
theorem isKey_f (s : ByteArray) : impl_isKey.f s = some (keyB s) := by
  unfold impl_isKey.f keyB
  by_cases h1 : (s.size : Int) ≥ 1
  · rw [if_pos h1]
    by_cases h2 : (s.size : Int) ≤ 8
    · rw [if_pos h2]
      have e : MapW.strings_Trim.f s ⟨#[97, 98, 99, 100, 101, 102, 103, 104, 105, 106, 107, 108, 109, 110, 111, 112, 113, 114, 115, 116, 117, 118, 119, 120, 121, 122, 48, 49, 50, 51, 52, 53, 54, 55, 56, 57]⟩ = some ⟨(Go.Lib.trimS s.data.toList keyCut).toArray⟩ := by
        unfold MapW.strings_Trim.f
        rw [if_pos ⟨by omega, by decide, by decide⟩]
        rfl
      rw [e]
      have h3 : 1 ≤ s.size ∧ s.size ≤ 8 := by omega
      simp only [Option.bind_some, toList_data, trim_nil, h3, decide_true, Bool.true_and, and_self]
    · rw [if_neg h2]
      have h3 : ¬ (1 ≤ s.size ∧ s.size ≤ 8) := by omega
      simp only [h3, decide_false, Bool.false_and]
  · rw [if_neg h1]
    have h3 : ¬ (1 ≤ s.size ∧ s.size ≤ 8) := by omega
    simp only [h3, decide_false, Bool.false_and]
theorem l1Key_ev (s : ByteArray) (hs : s.size ≤ 140737488355328) : Ev (fun k => spec_l1Key.f k s) (keyB s) := by
  have key := all_loop (fun k i => spec_l1Key.l0 k s i) s.data.toList keyByte (decide (1 ≤ s.size ∧ s.size ≤ 8)) (ev_last fun k => ?_) (fun n b r hx hn hp H => ?_) (fun n b hx hn hp => ?_)
  · have e : keyB s = (s.data.toList.all keyByte && decide (1 ≤ s.size ∧ s.size ≤ 8)) := by unfold keyB; exact Bool.and_comm _ _
    rw [e]
    exact Ev.congr (fun k => rfl) key
  · simp only [spec_l1Key.l0]
    rw [← size_len, if_neg (by omega), l1In_f]
    simp only [Option.bind_some]
    congr 2
    exact propext ⟨fun h => by omega, fun h => by omega⟩
  · refine Ev.step (fun k => ?_) H
    rw [← size_len] at hn
    simp only [spec_l1Key.l0]
    rw [if_pos (by omega), if_pos (by omega), wrap_nat (by omega), bt_nat hx]
    simp only [keyByte, Bool.or_eq_true, Bool.and_eq_true, decide_eq_true_eq] at hp
    by_cases a1 : (b.toNat : Int) ≥ 97
    · rw [if_pos a1]
      by_cases a2 : (b.toNat : Int) ≤ 122
      · rw [if_pos a2]
      · rw [if_neg a2]; omega
    · rw [if_neg a1, if_pos (by omega), if_pos (by omega)]
  · refine ev_last fun k => ?_
    rw [← size_len] at hn
    simp only [spec_l1Key.l0]
    rw [if_pos (by omega), if_pos (by omega), bt_nat hx]
    simp only [keyByte, Bool.or_eq_false_iff, Bool.and_eq_false_iff, decide_eq_false_iff_not] at hp
    by_cases a1 : (b.toNat : Int) ≥ 97
    · rw [if_pos a1, if_neg (by omega)]
      by_cases a2 : (b.toNat : Int) ≥ 48
      · rw [if_pos a2, if_neg (by omega)]
      · rw [if_neg a2]
    · rw [if_neg a1]
      by_cases a2 : (b.toNat : Int) ≥ 48
      · rw [if_pos a2, if_neg (by omega)]
      · rw [if_neg a2]

abbrev Op1 := S59
theorem rdO {xs : List Op1} {n : Nat} {x : Op1} (h : xs[n]? = some x) : rd_T59 xs (n : Int) = x := by simp [rd_T59, h]
theorem rdP {xs : List S58} {n : Nat} {x : S58} (h : xs[n]? = some x) : rd_T58 xs (n : Int) = x := by simp [rd_T58, h]
def opOk (o : Op1) : Bool := decide (1 ≤ o.f0 ∧ o.f0 ≤ 3) && (decide (1 ≤ o.f1 ∧ o.f1 ≤ 8) && (if o.f0 = 3 then decide (o.f2.toList = []) else keyB o.f2))
def sameT (o x : Op1) : Bool := decide (x.f1 = o.f1)
def doneT (o x : Op1) : Bool := decide (x.f1 = o.f1) && decide (x.f0 = 3)
def condT (o : Op1) (later done : Bool) : Bool := if o.f0 = 3 then !later else done
def opsFrom : List Op1 → Bool
  | [] => true
  | o :: r => opOk o && (condT o (r.any (sameT o)) (r.any (doneT o)) && opsFrom r)
def opsB (l : List Op1) : Bool := decide (l.length ≤ 60) && opsFrom l
theorem keyB_empty {s : ByteArray} (h : s.toList = []) : keyB s = false := by
  rw [toList_data] at h
  have : s.size = 0 := by rw [size_len, h]; rfl
  simp [keyB, this]
def runI (ov se : List Bool) : List Op1 → Bool
  | [] => se == ov
  | o :: r => opOk o && (!(ov.getD o.f1.toNat false) && runI (ov.set o.f1.toNat (o.f0 == 3)) (se.set o.f1.toNat true) r)
theorem opOk_txn {o : Op1} (h : opOk o = true) : 1 ≤ o.f1 ∧ o.f1 ≤ 8 := by
  simp only [opOk, Bool.and_eq_true, decide_eq_true_eq] at h
  exact h.2.1
theorem getD_set (l : List Bool) (n m : Nat) (b : Bool) (hn : n < l.length) : (l.set n b).getD m false = if m = n then b else l.getD m false := by
  by_cases h : m = n
  · subst h; simp [hn]
  · rw [if_neg h]
    simp only [List.getD_eq_getElem?_getD]
    rw [List.getElem?_set_ne (by omega)]
theorem runI_iff : ∀ (r : List Op1) (ov se : List Bool), ov.length = 9 → se.length = 9 → (∀ n, ov.getD n false = true → se.getD n false = true) →
    (runI ov se r = true ↔ opsFrom r = true ∧ ∀ n, n < 9 → ((ov.getD n false = true → ∀ o ∈ r, o.f1.toNat ≠ n) ∧ (se.getD n false = true → ov.getD n false = false → ∃ o ∈ r, o.f1.toNat = n ∧ o.f0 = 3)))
  | [], ov, se, ho, hs, hle => by
    simp only [runI, opsFrom, beq_iff_eq, true_and]
    constructor
    · rintro rfl n _
      exact ⟨fun _ o h => (by cases h), fun h1 h2 => (by rw [h1] at h2; cases h2)⟩
    · intro h
      apply List.ext_getElem?
      intro n
      by_cases hn : n < 9
      · obtain ⟨_, h2⟩ := h n hn
        have hl := hle n
        simp only [List.getD_eq_getElem?_getD] at h2 hl
        rw [List.getElem?_eq_getElem (by omega), List.getElem?_eq_getElem (by omega)] at *
        simp only [Option.getD_some] at h2 hl
        congr 1
        cases e1 : ov[n] with
        | true => exact hl e1
        | false =>
          cases e2 : se[n] with
          | false => rfl
          | true => obtain ⟨o, h, _⟩ := h2 e2 e1; cases h
      · rw [List.getElem?_eq_none (by omega), List.getElem?_eq_none (by omega)]
  | o :: r, ov, se, ho, hs, hle => by
    simp only [runI, opsFrom, Bool.and_eq_true, Bool.not_eq_true']
    by_cases hok : opOk o = true
    · have ht := opOk_txn hok
      have hT : o.f1.toNat < 9 := by omega
      have ih := runI_iff r (ov.set o.f1.toNat (o.f0 == 3)) (se.set o.f1.toNat true) (by simpa using ho) (by simpa using hs) (fun n => by
        rw [getD_set ov _ _ _ (by omega), getD_set se _ _ _ (by omega)]
        split
        · intro _; rfl
        · exact hle n)
      rw [ih]
      have eqv : ∀ x : Op1, x.f1 = o.f1 ↔ x.f1.toNat = o.f1.toNat := fun x => ⟨fun e => by rw [e], fun e => by omega⟩
      have hcond : condT o (r.any (sameT o)) (r.any (doneT o)) = true ↔ ((o.f0 = 3 → ∀ x ∈ r, x.f1.toNat ≠ o.f1.toNat) ∧ (¬ o.f0 = 3 → ∃ x ∈ r, x.f1.toNat = o.f1.toNat ∧ x.f0 = 3)) := by
        unfold condT
        by_cases h3 : o.f0 = 3
        · simp only [if_pos h3, Bool.not_eq_true', List.any_eq_false, sameT, decide_eq_true_eq, eqv]
          constructor
          · intro h; exact ⟨fun _ => h, fun n => absurd h3 n⟩
          · intro h; exact h.1 h3
        · simp only [if_neg h3, List.any_eq_true, doneT, Bool.and_eq_true, decide_eq_true_eq, eqv]
          constructor
          · intro h; exact ⟨fun n => absurd n h3, fun _ => h⟩
          · intro h; exact h.2 h3
      rw [hcond]
      constructor
      · rintro ⟨_, hov, hf, hall⟩
        obtain ⟨t1, t2⟩ := hall o.f1.toNat hT
        rw [getD_set ov _ _ _ (by omega), getD_set se _ _ _ (by omega), if_pos rfl, if_pos rfl] at t2
        rw [getD_set ov _ _ _ (by omega), if_pos rfl] at t1
        refine ⟨⟨hok, ⟨fun h3 => t1 (by simp [h3]), fun h3 => t2 rfl (by simp [h3])⟩, hf⟩, fun n hn => ?_⟩
        by_cases hne : n = o.f1.toNat
        · subst hne
          refine ⟨fun h => (by rw [hov] at h; cases h), fun _ _ => ?_⟩
          by_cases h3 : o.f0 = 3
          · exact ⟨o, List.mem_cons_self, rfl, h3⟩
          · obtain ⟨x, hx, hx2⟩ := t2 rfl (by simp [h3])
            exact ⟨x, List.mem_cons_of_mem _ hx, hx2⟩
        · obtain ⟨s1, s2⟩ := hall n hn
          rw [getD_set ov _ _ _ (by omega), if_neg hne] at s1 s2
          rw [getD_set se _ _ _ (by omega), if_neg hne] at s2
          refine ⟨fun h x hx => ?_, fun h1 h2 => ?_⟩
          · rcases List.mem_cons.1 hx with rfl | hx
            · exact fun e => hne e.symm
            · exact s1 h x hx
          · obtain ⟨x, hx, hx2⟩ := s2 h1 h2
            exact ⟨x, List.mem_cons_of_mem _ hx, hx2⟩
      · rintro ⟨⟨_, ⟨c1, c2⟩, hf⟩, hall⟩
        obtain ⟨t1, t2⟩ := hall o.f1.toNat hT
        have hov : ov.getD o.f1.toNat false = false := by
          cases h : ov.getD o.f1.toNat false with
          | false => rfl
          | true => exact absurd rfl (t1 h o List.mem_cons_self)
        refine ⟨hok, hov, hf, fun n hn => ?_⟩
        rw [getD_set ov _ _ _ (by omega), getD_set se _ _ _ (by omega)]
        by_cases hne : n = o.f1.toNat
        · subst hne
          simp only [if_true]
          refine ⟨fun h => c1 (by simpa using h), fun _ h => c2 (by simpa using h)⟩
        · simp only [if_neg hne]
          obtain ⟨s1, s2⟩ := hall n hn
          refine ⟨fun h x hx => s1 h x (List.mem_cons_of_mem _ hx), fun h1 h2 => ?_⟩
          obtain ⟨x, hx, hx2⟩ := s2 h1 h2
          rcases List.mem_cons.1 hx with rfl | hx
          · exact absurd hx2.1.symm hne
          · exact ⟨x, hx, hx2⟩
    · simp [hok]
theorem runI_start (l : List Op1) : runI (List.replicate 9 false) (List.replicate 9 false) l = opsFrom l := by
  have z : ∀ n, (List.replicate 9 false).getD n false = false := by
    intro n
    simp only [List.getD_eq_getElem?_getD, List.getElem?_replicate]
    split <;> rfl
  rw [Bool.eq_iff_iff, runI_iff l _ _ (by simp) (by simp) (fun n h => h)]
  simp only [z]
  simp
theorem szOpS_ev (l : List S58) (hl : l.length ≤ 140737488355328) (hk : ∀ y ∈ l, y.f2.size ≤ 140737488351232) : ∃ v, Ev (fun k => laws_szOpS.f k l 1048576) v ∧ (1048576 < l.length → v < 0) := by
  have w : wrap64 (1048576 - (l.length : Int)) = 1048576 - l.length := wrap_of (by omega) (by omega)
  obtain ⟨v, h1, h2⟩ := ev_exists_neg (g := fun k => laws_szOpS.f k l 1048576) (c := 1048576 - (l.length : Int)) (f := fun k => laws_szOpS.l0 k l (1048576 - (l.length : Int)) 0) (fun k => by unfold laws_szOpS.f; rw [w]) (fun hc => by
    refine sz_loop (fun k a i => laws_szOpS.l0 k l a i) (fun x a => laws_szOp.f x.f0 x.f1 x.f2 a) l (fun x hx a h0 h1 => ?_) (fun k a => by simp [laws_szOpS.l0]) (fun k n x a v hx hn hv => ?_) _ (by omega) (by omega)
    · have s1 := hk x hx
      have w1 : wrap64 (a - (x.f2.size : Int)) = a - x.f2.size := wrap_of (by omega) (by omega)
      unfold laws_szOp.f
      rw [w1]
      split
      · exact ⟨_, rfl, by omega⟩
      · exact ⟨_, rfl, by omega⟩
    · simp only [laws_szOpS.l0]
      rw [if_pos (by omega), if_pos (by omega), rdP hx, hv, wrap_nat (by omega)]
      rfl)
  exact ⟨v, h1, fun h => h2 (by omega)⟩
def cvO (x : S58) : Op1 := ⟨x.f0, x.f1, x.f2⟩
theorem toOpS_ev (l : List S58) (hl : l.length ≤ 1048576) : Ev (fun k => laws_toOpS.f k l) (l.map cvO) := by
  have key := fill_loop (fun k xs i => laws_toOpS.l0 k l xs i) l cvO (fun k xs => by simp [laws_toOpS.l0]) (fun n x xs hx hn hl' H => ?_) z59
  · refine Ev.congr (fun k => ?_) key
    simp only [laws_toOpS.f]
    rw [if_pos (by omega), if_pos (by omega)]
    simp
  · refine Ev.step (fun k => ?_) H
    simp only [laws_toOpS.l0, laws_toOp.f, Option.bind_some]
    rw [if_pos (by omega), if_pos (by omega), if_pos (by omega), wrap_nat (by omega), rdP hx]
    simp [cvO]
theorem eqOp_f (a b : Int) (c : ByteArray) : laws_eqOp.f a b c a b c = some true := by simp [laws_eqOp.f]
theorem eqOpS_ev (l : List Op1) (hl : l.length ≤ 140737488355328) : Ev (fun k => laws_eqOpS.f k l l) true := by
  have key := eq_loop (fun k i => laws_eqOpS.l0 k l l i) l l (fun _ _ => true) rfl (fun k => by simp [laws_eqOpS.l0]) (fun n x y r hx hy hn _ he H => ?_) (fun n x y hx hy hn _ he => by cases he)
  · rw [zip_self_all (fun _ _ => true) (by simp) l] at key
    refine Ev.congr (fun k => ?_) key
    simp [laws_eqOpS.f]
  · refine Ev.step (fun k => ?_) H
    simp only [laws_eqOpS.l0]
    rw [if_pos (by omega), if_pos (by omega), if_pos (by omega), wrap_nat (by omega), eqOp_f]
    simp
def sizesO (l : List Op1) : Prop := ∀ y ∈ l, y.f2.size ≤ 140737488351232
theorem dec_sixty (n : Nat) : decide ((n : Int) ≤ 60) = decide (n ≤ 60) := by by_cases h : n ≤ 60 <;> simp [h] <;> omega
theorem specOps_ev (l : List Op1) (hl : l.length ≤ 1048576) (hk : sizesO l) : Ev (fun k => spec_GoodOps.f k l) (opsB l) := by
  have key := drop_ind0 l (fun n rest => Ev (fun k => spec_GoodOps.l0 k l l (l.length : Int) (n : Int)) (opsFrom rest)) ?_ ?_
  · unfold spec_GoodOps.f opsB
    by_cases h60 : l.length ≤ 60
    · refine ev_if_neg (by omega) ?_
      simpa [h60] using key
    · refine ev_if_pos (by omega) ?_
      simpa [h60] using ev_some false
  · refine ev_last (fun k => ?_)
    simp only [spec_GoodOps.l0]
    rw [if_neg (by omega)]
    rfl
  · intro n o rest hn ho hd ih
    have s1 := hk o (List.mem_of_getElem? ho)
    have hrest : l.drop (n + 1) = rest := by
      have := List.drop_eq_getElem_cons hn
      rw [hd] at this
      exact (List.cons.inj this).2.symm
    have hno : opsFrom (o :: rest) = (opOk o && (condT o (rest.any (sameT o)) (rest.any (doneT o)) && opsFrom rest)) := rfl
    have inner : Ev (fun k => spec_GoodOps.l1 k l false false l (l.length : Int) (n : Int) rest (rest.length : Int) 0 o.f0 o.f1 o.f2) (condT o (rest.any (sameT o)) (rest.any (doneT o)) && opsFrom rest) := by
      have hlr : rest.length ≤ l.length := by rw [← hrest]; simp
      have key2 := drop_ind0 rest (fun j rs => ∀ a b : Bool, Ev (fun k => spec_GoodOps.l1 k l a b l (l.length : Int) (n : Int) rest (rest.length : Int) (j : Int) o.f0 o.f1 o.f2) (condT o (a || rs.any (sameT o)) (b || rs.any (doneT o)) && opsFrom rest)) ?_ ?_
      · simpa using key2 false false
      · intro a b
        refine ev_shift ?_
        simp only [spec_GoodOps.l1]
        refine ev_if_neg (by omega) ?_
        rw [wrap_nat (by omega)]
        simp only [List.any_nil, Bool.or_false, condT]
        by_cases h3 : o.f0 = 3
        · simp only [if_pos h3]
          cases a with
          | true => simpa using ev_some false
          | false => simpa using ih
        · simp only [if_neg h3]
          cases b with
          | true => simpa using ih
          | false => simpa using ev_some false
      · intro j x rs hj hx _ ih2 a b
        have H := ih2 (a || decide (x.f1 = o.f1)) (b || (decide (x.f1 = o.f1) && decide (x.f0 = 3)))
        have e1 : (a || decide (x.f1 = o.f1) || rs.any (sameT o)) = (a || (x :: rs).any (sameT o)) := by simp [sameT, Bool.or_assoc]
        have e2 : (b || (decide (x.f1 = o.f1) && decide (x.f0 = 3)) || rs.any (doneT o)) = (b || (x :: rs).any (doneT o)) := by simp [doneT, Bool.or_assoc]
        rw [e1, e2] at H
        refine ev_shift (Ev.congr (fun k => ?_) H)
        simp only [spec_GoodOps.l1, rdO hx, wrap_nat (show j < 9223372036854775807 by omega)]
        rw [if_pos (by omega), if_pos (by omega), if_pos (by omega)]
        have bq : ∀ u v : Int, (u == v) = decide (u = v) := fun u v => by by_cases h : u = v <;> simp [h]
        simp only [bq]
        by_cases h1 : x.f1 = o.f1 <;> cases a <;> cases b <;> simp [h1]
    have bad : ∀ q : Bool, q = true → Ev (fun k => spec_GoodOps.j1 k l (n : Int) l (l.length : Int) (n : Int) q o.f0 o.f1 o.f2) false := by
      intro q hq
      exact ev_last (fun k => by simp only [spec_GoodOps.j1]; rw [if_pos hq])
    have good : ∀ q : Bool, q = false → Ev (fun k => spec_GoodOps.j1 k l (n : Int) l (l.length : Int) (n : Int) q o.f0 o.f1 o.f2) (condT o (rest.any (sameT o)) (rest.any (doneT o)) && opsFrom rest) := by
      intro q hq
      refine ev_shift ?_
      simp only [spec_GoodOps.j1, wrap_nat (show n < 9223372036854775807 by omega), Int.toNat_natCast, hrest, Option.bind_some]
      exact ev_if_neg (by simp [hq]) (ev_if_pos (by omega) (ev_if_pos (by omega) inner))
    have fall : opOk o = false → opsFrom (o :: rest) = false := fun h => by rw [hno, h]; rfl
    refine ev_shift ?_
    simp only [spec_GoodOps.l0, rdO ho, l1In_f, Option.bind_some]
    refine ev_if_pos (by omega) (ev_if_pos (by omega) (ev_if_pos (by omega) ?_))
    by_cases b0 : 1 ≤ o.f0 ∧ o.f0 ≤ 3
    · refine ev_if_pos (decide_eq_true b0) ?_
      by_cases b1 : 1 ≤ o.f1 ∧ o.f1 ≤ 8
      · refine ev_if_pos (decide_eq_true b1) ?_
        by_cases b2 : o.f2.toList = []
        · refine ev_if_pos b2 ?_
          by_cases b3 : o.f0 = 3
          · have : opOk o = true := by simp [opOk, b0, b1, b3, b2]
            rw [hno, this, Bool.true_and]
            exact ev_if_pos b3 (good _ rfl)
          · have : opOk o = false := by simp [opOk, b3, keyB_empty b2]
            rw [fall this]
            exact ev_if_neg b3 (bad _ rfl)
        · refine ev_if_neg b2 ?_
          by_cases b3 : o.f0 = 3
          · have : opOk o = false := by simp [opOk, b3, b2]
            rw [fall this]
            exact ev_if_pos b3 (bad _ rfl)
          · refine ev_if_neg b3 (ev_bind (l1Key_ev o.f2 (by omega)) ?_)
            cases b4 : keyB o.f2 with
            | true =>
              have : opOk o = true := by simp [opOk, b0, b1, b3, b4]
              rw [hno, this, Bool.true_and]
              exact good _ rfl
            | false =>
              have : opOk o = false := by simp [opOk, b3, b4]
              rw [fall this]
              exact bad _ rfl
      · have : opOk o = false := by simp [opOk, b1]
        rw [fall this]
        exact ev_if_neg (by simp [b1]) (bad _ rfl)
    · have : opOk o = false := by simp [opOk, b0]
      rw [fall this]
      exact ev_if_neg (by simp [b0]) (bad _ rfl)
theorem implOps_ev (l : List Op1) (hl : l.length ≤ 1048576) (hk : sizesO l) : Ev (fun k => impl_areOps.f k l) (opsB l) := by
  have key := drop_ind0 l (fun n rest => ∀ ov se : List Bool, ov.length = 9 → se.length = 9 → Ev (fun k => impl_areOps.l0 k l l (l.length : Int) (n : Int) ov se) (decide (l.length ≤ 60) && runI ov se rest)) ?_ ?_
  · have h0 : Ev (fun k => impl_areOps.l0 k l l (l.length : Int) 0 (List.replicate 9 false) (List.replicate 9 false)) (opsB l) := by
      have := key (List.replicate 9 false) (List.replicate 9 false) (by simp) (by simp)
      rw [runI_start] at this
      exact this
    exact Ev.congr (fun k => rfl) h0
  · intro ov se ho hs
    refine ev_last (fun k => ?_)
    simp only [impl_areOps.l0]
    rw [if_neg (by omega)]
    by_cases h60 : l.length ≤ 60
    · rw [if_pos (by omega), if_pos hs, if_pos ho]
      simp [h60, runI]
    · rw [if_neg (by omega)]
      simp [h60]
  · intro n o rest hn ho _ ih ov se hov hse
    have s1 := hk o (List.mem_of_getElem? ho)
    have hno : runI ov se (o :: rest) = (opOk o && (!(ov.getD o.f1.toNat false) && runI (ov.set o.f1.toNat (o.f0 == 3)) (se.set o.f1.toNat true) rest)) := rfl
    have fall : opOk o = false → (decide (l.length ≤ 60) && runI ov se (o :: rest)) = false := fun h => by rw [hno, h]; simp
    refine ev_shift ?_
    simp only [impl_areOps.l0, rdO ho, in_f, isKey_f, Option.bind_some, wrap_nat (show n < 9223372036854775807 by omega), arAt]
    refine ev_if_pos (by omega) (ev_if_pos (by omega) (ev_if_pos (by omega) ?_))
    by_cases b0 : 1 ≤ o.f0 ∧ o.f0 ≤ 3
    · refine ev_if_pos (decide_eq_true b0) ?_
      by_cases b1 : 1 ≤ o.f1 ∧ o.f1 ≤ 8
      · refine ev_if_pos (decide_eq_true b1) (ev_if_pos (by omega) (ev_if_pos (by omega) (ev_if_pos (by omega) ?_)))
        have H := ih (ov.set o.f1.toNat (o.f0 == 3)) (se.set o.f1.toNat true) (by simpa using hov) (by simpa using hse)
        cases b2 : ov.getD o.f1.toNat false with
        | true =>
          refine ev_if_pos rfl ?_
          rw [hno, b2]
          simpa using ev_some false
        | false =>
          refine ev_if_neg (by simp) ?_
          by_cases b3 : o.f0 = 3
          · refine ev_if_pos b3 ?_
            by_cases b4 : o.f2.toList = []
            · have : opOk o = true := by simp [opOk, b0, b1, b3, b4]
              rw [hno, this, b2, Bool.true_and, Bool.not_false, Bool.true_and]
              exact ev_if_pos b4 (ev_if_pos (by omega) H)
            · rw [fall (by simp [opOk, b3, b4])]
              exact ev_if_neg b4 (ev_some _)
          · refine ev_if_neg b3 ?_
            cases b4 : keyB o.f2 with
            | true =>
              have : opOk o = true := by simp [opOk, b0, b1, b3, b4]
              rw [hno, this, b2, Bool.true_and, Bool.not_false, Bool.true_and]
              exact ev_if_pos rfl (ev_if_pos (by omega) H)
            | false =>
              rw [fall (by simp [opOk, b3, b4])]
              exact ev_if_neg (by simp) (ev_some _)
      · rw [fall (by simp [opOk, b1])]
        exact ev_if_neg (by simp [b1]) (ev_some _)
    · rw [fall (by simp [opOk, b0])]
      exact ev_if_neg (by simp [b0]) (ev_some _)

/-! ### good operations, place by place -/
theorem ops_at : ∀ (l : List Op1), opsFrom l = true → ∀ (n : Nat) (o : Op1), l[n]? = some o → opOk o = true ∧ condT o ((l.drop (n + 1)).any (sameT o)) ((l.drop (n + 1)).any (doneT o)) = true
  | [], _, n, o, h => by simp at h
  | x :: r, h, n, o, ho => by
    simp only [opsFrom, Bool.and_eq_true] at h
    cases n with
    | zero => simp at ho; subst ho; exact ⟨h.1, by simpa using h.2.1⟩
    | succ n =>
      have := ops_at r h.2.2 n o (by simpa using ho)
      simpa using this
theorem opsB_from {l : List Op1} (h : opsB l = true) : opsFrom l = true ∧ l.length ≤ 60 := by
  simp only [opsB, Bool.and_eq_true, decide_eq_true_eq] at h
  exact ⟨h.2, h.1⟩
/-- The transaction commits at this place. -/
def isCommit (l : List Op1) (t : Int) (c : Nat) : Prop := ∃ o, l[c]? = some o ∧ o.f1 = t ∧ o.f0 = 3
theorem mem_drop {l : List Op1} {n m : Nat} {o : Op1} (h : l[m]? = some o) (hnm : n < m) : o ∈ l.drop (n + 1) := by
  refine List.mem_of_getElem? (i := m - (n + 1)) ?_
  rw [List.getElem?_drop]
  have : n + 1 + (m - (n + 1)) = m := by omega
  rw [this]; exact h
theorem commit_one {l : List Op1} (h : opsFrom l = true) {t : Int} {a b : Nat} (ha : isCommit l t a) (hb : isCommit l t b) : a = b := by
  have lt : ∀ a b, isCommit l t a → isCommit l t b → ¬ a < b := by
    rintro a b ⟨x, hx, hx1, hx2⟩ ⟨y, hy, hy1, hy2⟩ hab
    have := (ops_at l h a x hx).2
    simp only [condT, if_pos hx2, Bool.not_eq_true', List.any_eq_false, sameT, decide_eq_true_eq] at this
    exact this y (mem_drop hy hab) (by rw [hy1, hx1])
  have h1 := lt a b ha hb
  have h2 := lt b a hb ha
  omega
theorem commit_some {l : List Op1} (h : opsFrom l = true) {n : Nat} {o : Op1} (ho : l[n]? = some o) : ∃ c, isCommit l o.f1 c := by
  by_cases h3 : o.f0 = 3
  · exact ⟨n, o, ho, rfl, h3⟩
  · have := (ops_at l h n o ho).2
    simp only [condT, if_neg h3, List.any_eq_true, doneT, Bool.and_eq_true, decide_eq_true_eq] at this
    obtain ⟨x, hx, hx1, hx2⟩ := this
    obtain ⟨m, hm⟩ := List.getElem?_of_mem hx
    rw [List.getElem?_drop] at hm
    exact ⟨n + 1 + m, x, hm, hx1, hx2⟩
def lastC (l : List Op1) (t : Int) : Nat → Int
  | 0 => -1
  | n + 1 => match l[n]? with
    | some o => if o.f1 = t ∧ o.f0 = 3 then (n : Int) else lastC l t n
    | none => lastC l t n
theorem lastC_eq {l : List Op1} (h : opsFrom l = true) {t : Int} {c : Nat} (hc : isCommit l t c) : ∀ n, c < n → lastC l t n = c
  | 0, hn => by omega
  | n + 1, hn => by
    by_cases hcn : c = n
    · subst hcn
      obtain ⟨o, ho, h1, h2⟩ := hc
      simp only [lastC, ho]
      rw [if_pos ⟨h1, h2⟩]
    · have ih := lastC_eq h hc n (by omega)
      unfold lastC
      split
      · rename_i o ho
        split
        · rename_i hq
          exact absurd (commit_one h hc ⟨o, ho, hq.1, hq.2⟩) hcn
        · exact ih
      · exact ih
theorem commit_lt {l : List Op1} {t : Int} {c : Nat} (hc : isCommit l t c) : c < l.length := by
  obtain ⟨o, ho, _⟩ := hc
  exact (List.getElem?_eq_some_iff.1 ho).1
theorem l3Commit_ev {l : List Op1} (h : opsFrom l = true) (hl : l.length ≤ 1048576) {t : Int} {c : Nat} (hc : isCommit l t c) : Ev (fun k => spec_l3Commit.f k l t) (lastC l t l.length) := by
  have hlt := commit_lt hc
  rw [lastC_eq h hc l.length hlt]
  have key := up_ind c (fun n => Ev (fun k => spec_l3Commit.l0 k t l (l.length : Int) (n : Int)) (c : Int)) ?_ ?_ 0 (by omega)
  · exact Ev.congr (fun k => rfl) key
  · obtain ⟨o, ho, h1, h2⟩ := hc
    refine ev_last (fun k => ?_)
    simp only [spec_l3Commit.l0, rdO ho]
    rw [if_pos (by omega), if_pos (by omega), if_pos (by omega), if_pos h1, if_pos h2]
  · intro n hn ih
    have hx : l[n]? = some l[n] := List.getElem?_eq_getElem (by omega)
    generalize l[n] = o at hx
    refine ev_shift ?_
    simp only [spec_l3Commit.l0, rdO hx, wrap_nat (show n < 9223372036854775807 by omega)]
    refine ev_if_pos (by omega) (ev_if_pos (by omega) (ev_if_pos (by omega) ?_))
    by_cases h1 : o.f1 = t
    · refine ev_if_pos h1 ?_
      by_cases h2 : o.f0 = 3
      · have := commit_one h hc ⟨o, hx, h1, h2⟩
        omega
      · exact ev_if_neg h2 ih
    · exact ev_if_neg h1 ih
/-- The last write of a key ahead of a place: its transaction and its place. -/
def lastW (l : List Op1) (key : List UInt8) : Nat → Int × Int
  | 0 => (0, -1)
  | n + 1 => match l[n]? with
    | some o => if o.f0 = 2 ∧ o.f2.toList = key then (o.f1, (n : Int)) else lastW l key n
    | none => lastW l key n
theorem lastW_mem (l : List Op1) (key : List UInt8) : ∀ n, (lastW l key n).1 ≠ 0 → ∃ (k : Nat) (o : Op1), l[k]? = some o ∧ o.f1 = (lastW l key n).1
  | 0, h => by simp [lastW] at h
  | n + 1, h => by
    unfold lastW at h ⊢
    split
    · rename_i o ho
      split
      · exact ⟨n, o, ho, rfl⟩
      · rename_i hq
        simp only [ho, if_neg hq] at h
        exact lastW_mem l key n h
    · rename_i ho
      simp only [ho] at h
      exact lastW_mem l key n h
theorem l3Last_ev (l : List Op1) (key : ByteArray) (hl : l.length ≤ 1048576) (i : Nat) (hi : i ≤ l.length) : Ev (fun k => spec_l3Last.f k l (i : Int) key) (lastW l key.toList i) := by
  have up : ∀ j, j ≤ l.length → Ev (fun k => spec_l3Last.l0 k l key ((j : Int) - 1)) (lastW l key.toList j) := by
    intro j
    induction j with
    | zero =>
      intro _
      refine ev_last (fun k => ?_)
      simp only [spec_l3Last.l0]
      rw [if_neg (by omega)]
      rfl
    | succ j ih =>
      intro hj
      have hx : l[j]? = some l[j] := List.getElem?_eq_getElem (by omega)
      generalize l[j] = o at hx
      have e1 : ((j + 1 : Nat) : Int) - 1 = (j : Int) := by omega
      have w : wrap64 ((j : Int) - 1) = (j : Int) - 1 := wrap_of (by omega) (by omega)
      have ih := ih (by omega)
      refine ev_shift ?_
      simp only [spec_l3Last.l0, e1, w, rdO hx, lastW, hx]
      refine ev_if_pos (by omega) (ev_if_pos (by omega) (ev_if_pos (by omega) ?_))
      by_cases h1 : o.f0 = 2
      · refine ev_if_pos h1 ?_
        by_cases h2 : o.f2.toList = key.toList
        · rw [if_pos ⟨h1, h2⟩]
          exact ev_if_pos h2 (ev_some _)
        · rw [if_neg (fun x => h2 x.2)]
          exact ev_if_neg h2 ih
      · rw [if_neg (fun x => h1 x.1)]
        exact ev_if_neg h1 ih
  refine Ev.congr (fun k => ?_) (up i hi)
  unfold spec_l3Last.f
  rw [wrap_of (by omega) (by omega)]
theorem writerAt_ev (l : List Op1) (hl : l.length ≤ 1048576) (i : Nat) (e : Op1) (he : l[i]? = some e) : Ev (fun k => impl_writerAt.f k l (i : Int)) (lastW l e.f2.toList i).1 := by
  have hi : i < l.length := (List.getElem?_eq_some_iff.1 he).1
  have up : ∀ j, j ≤ l.length → Ev (fun k => impl_writerAt.l0 k l (i : Int) ((j : Int) - 1)) (lastW l e.f2.toList j).1 := by
    intro j
    induction j with
    | zero =>
      intro _
      refine ev_last (fun k => ?_)
      simp only [impl_writerAt.l0]
      rw [if_neg (by omega)]
      rfl
    | succ j ih =>
      intro hj
      have hx : l[j]? = some l[j] := List.getElem?_eq_getElem (by omega)
      generalize l[j] = o at hx
      have e1 : ((j + 1 : Nat) : Int) - 1 = (j : Int) := by omega
      have w : wrap64 ((j : Int) - 1) = (j : Int) - 1 := wrap_of (by omega) (by omega)
      have ih := ih (by omega)
      refine ev_shift ?_
      simp only [impl_writerAt.l0, e1, w, rdO hx, rdO he, lastW, hx]
      refine ev_if_pos (by omega) (ev_if_pos (by omega) (ev_if_pos (by omega) ?_))
      by_cases h1 : o.f0 = 2
      · refine ev_if_pos h1 (ev_if_pos (by omega) (ev_if_pos (by omega) ?_))
        by_cases h2 : o.f2.toList = e.f2.toList
        · rw [if_pos ⟨h1, h2⟩]
          exact ev_if_pos h2 (ev_some _)
        · rw [if_neg (fun x => h2 x.2)]
          exact ev_if_neg h2 ih
      · rw [if_neg (fun x => h1 x.1)]
        exact ev_if_neg h1 ih
  refine Ev.congr (fun k => ?_) (up i (by omega))
  unfold impl_writerAt.f
  rw [wrap_of (by omega) (by omega)]

def recRun (l : List Op1) : List Op1 → Nat → Bool → Bool → Bool → Bool × Bool × Bool × Bool
  | [], _, a, b, c => (a, b, c, true)
  | o :: r, n, a, b, c =>
    if o.f0 = 3 ∨ (lastW l o.f2.toList n).1 = 0 ∨ (lastW l o.f2.toList n).1 = o.f1 then recRun l r (n + 1) a b c
    else if o.f0 = 1 then recRun l r (n + 1) (a && decide (lastC l (lastW l o.f2.toList n).1 l.length < lastC l o.f1 l.length)) (b && decide (lastC l (lastW l o.f2.toList n).1 l.length < n)) (c && decide (lastC l (lastW l o.f2.toList n).1 l.length < n))
    else recRun l r (n + 1) a b (c && decide (lastC l (lastW l o.f2.toList n).1 l.length < n))
theorem bq_int (u v : Int) : (u == v) = decide (u = v) := by by_cases h : u = v <;> simp [h]
theorem specRec_ev (l : List Op1) (hg : opsFrom l = true) (hl : l.length ≤ 1048576) : Ev (fun k => spec_RecoverableOf.l0 k l true true true l (l.length : Int) 0) (recRun l l 0 true true true) := by
  have key := drop_ind0 l (fun n rest => ∀ a b c, Ev (fun k => spec_RecoverableOf.l0 k l a b c l (l.length : Int) (n : Int)) (recRun l rest n a b c)) ?_ ?_
  · exact key true true true
  · intro a b c
    refine ev_last (fun k => ?_)
    simp only [spec_RecoverableOf.l0]
    rw [if_neg (by omega)]
    rfl
  · intro n o rest hn ho _ ih a b c
    refine ev_shift ?_
    simp only [spec_RecoverableOf.l0, rdO ho]
    refine ev_if_pos (by omega) (ev_if_pos (by omega) (ev_if_pos (by omega) (ev_bind (l3Last_ev l o.f2 hl n (by omega)) ?_)))
    have skip : ∀ q : Bool, q = true → Ev (fun k => spec_RecoverableOf.j1 k l a b c (n : Int) (lastW l o.f2.toList n).1 l (l.length : Int) (n : Int) q o.f0 o.f1 o.f2) (recRun l rest (n + 1) a b c) := by
      intro q hq
      refine ev_shift ?_
      simp only [spec_RecoverableOf.j1, wrap_nat (show n < 9223372036854775807 by omega)]
      exact ev_if_pos hq (ih a b c)
    by_cases h1 : o.f0 = 3
    · simp only [recRun, if_pos (Or.inl h1 : o.f0 = 3 ∨ _)]
      exact ev_if_pos h1 (skip _ rfl)
    · refine ev_if_neg h1 ?_
      by_cases h2 : (lastW l o.f2.toList n).1 = 0
      · simp only [recRun, if_pos (Or.inr (Or.inl h2) : o.f0 = 3 ∨ (lastW l o.f2.toList n).1 = 0 ∨ _)]
        exact ev_if_pos h2 (skip _ rfl)
      · refine ev_if_neg h2 ?_
        by_cases h3 : (lastW l o.f2.toList n).1 = o.f1
        · simp only [recRun, if_pos (Or.inr (Or.inr h3) : o.f0 = 3 ∨ (lastW l o.f2.toList n).1 = 0 ∨ _)]
          exact skip _ (by rw [bq_int]; exact decide_eq_true h3)
        · have hno : ¬ (o.f0 = 3 ∨ (lastW l o.f2.toList n).1 = 0 ∨ (lastW l o.f2.toList n).1 = o.f1) := by
            rintro (h | h | h)
            · exact h1 h
            · exact h2 h
            · exact h3 h
          obtain ⟨kw, ow, hw1, hw2⟩ := lastW_mem l o.f2.toList n h2
          obtain ⟨cw, hcw⟩ := commit_some hg hw1
          rw [hw2] at hcw
          obtain ⟨co, hco⟩ := commit_some hg ho
          have evw := l3Commit_ev hg hl hcw
          have evo := l3Commit_ev hg hl hco
          simp only [recRun, if_neg hno]
          generalize (lastW l o.f2.toList n).1 = w at *
          have two : ∀ c2 : Bool, c2 = (c && decide (lastC l w l.length < (n : Int))) → Ev (fun k => spec_RecoverableOf.j2 k l a b c2 w (decide (lastC l w l.length < (n : Int))) l (l.length : Int) (n : Int) o.f0 o.f1 o.f2) (if o.f0 = 1 then recRun l rest (n + 1) (a && decide (lastC l w l.length < lastC l o.f1 l.length)) (b && decide (lastC l w l.length < n)) (c && decide (lastC l w l.length < n)) else recRun l rest (n + 1) a b (c && decide (lastC l w l.length < n))) := by
            intro c2 hc2
            subst hc2
            refine ev_shift ?_
            simp only [spec_RecoverableOf.j2, wrap_nat (show n < 9223372036854775807 by omega)]
            by_cases k1 : o.f0 = 1
            · rw [if_pos k1]
              refine ev_if_pos k1 ?_
              cases b with
              | true =>
                refine ev_if_pos rfl ?_
                cases a with
                | true => exact ev_if_pos rfl (ev_bind evw (ev_bind evo (by simpa using ih _ _ _)))
                | false => exact ev_if_neg (by simp) (by simpa using ih _ _ _)
              | false =>
                refine ev_if_neg (by simp) ?_
                cases a with
                | true => exact ev_if_pos rfl (ev_bind evw (ev_bind evo (by simpa using ih _ _ _)))
                | false => exact ev_if_neg (by simp) (by simpa using ih _ _ _)
            · rw [if_neg k1]
              exact ev_if_neg k1 (ih _ _ _)
          refine ev_shift ?_
          simp only [spec_RecoverableOf.j1]
          refine ev_if_neg (by rw [bq_int]; simp [h3]) (ev_bind evw ?_)
          cases c with
          | true => exact ev_if_pos rfl (two _ (by simp))
          | false => exact ev_if_neg (by simp) (two _ (by simp))
theorem implRec_ev (l : List Op1) (hg : opsFrom l = true) (hl : l.length ≤ 1048576) : Ev (fun k => impl_RecoverableOf.l0 k l l (l.length : Int) 0 []) (recRun l l 0 true true true) := by
  have second : ∀ m : List (Int × Int), (∀ t c, isCommit l t c → mgetD m t 0 = (c : Int)) → Ev (fun k => impl_RecoverableOf.l1 k l true true true l (l.length : Int) 0 m) (recRun l l 0 true true true) := by
    intro m hm
    have key := drop_ind0 l (fun n rest => ∀ a b c, Ev (fun k => impl_RecoverableOf.l1 k l a b c l (l.length : Int) (n : Int) m) (recRun l rest n a b c)) ?_ ?_
    · exact key true true true
    · intro a b c
      refine ev_last (fun k => ?_)
      simp only [impl_RecoverableOf.l1]
      rw [if_neg (by omega)]
      rfl
    · intro n o rest hn ho _ ih a b c
      refine ev_shift ?_
      simp only [impl_RecoverableOf.l1, rdO ho]
      refine ev_if_pos (by omega) (ev_if_pos (by omega) (ev_if_pos (by omega) (ev_bind (writerAt_ev l hl n o ho) ?_)))
      have skip : ∀ q : Bool, q = true → Ev (fun k => impl_RecoverableOf.j2 k l a b c (n : Int) (lastW l o.f2.toList n).1 l (l.length : Int) (n : Int) q m o.f0 o.f1 o.f2) (recRun l rest (n + 1) a b c) := by
        intro q hq
        refine ev_shift ?_
        simp only [impl_RecoverableOf.j2, wrap_nat (show n < 9223372036854775807 by omega)]
        exact ev_if_pos hq (ih a b c)
      by_cases h1 : o.f0 = 3
      · simp only [recRun, if_pos (Or.inl h1 : o.f0 = 3 ∨ _)]
        exact ev_if_pos h1 (skip _ rfl)
      · refine ev_if_neg h1 ?_
        by_cases h2 : (lastW l o.f2.toList n).1 = 0
        · simp only [recRun, if_pos (Or.inr (Or.inl h2) : o.f0 = 3 ∨ (lastW l o.f2.toList n).1 = 0 ∨ _)]
          exact ev_if_pos h2 (skip _ rfl)
        · refine ev_if_neg h2 ?_
          by_cases h3 : (lastW l o.f2.toList n).1 = o.f1
          · simp only [recRun, if_pos (Or.inr (Or.inr h3) : o.f0 = 3 ∨ (lastW l o.f2.toList n).1 = 0 ∨ _)]
            exact skip _ (by rw [bq_int]; exact decide_eq_true h3)
          · have hno : ¬ (o.f0 = 3 ∨ (lastW l o.f2.toList n).1 = 0 ∨ (lastW l o.f2.toList n).1 = o.f1) := by
              rintro (h | h | h)
              · exact h1 h
              · exact h2 h
              · exact h3 h
            obtain ⟨kw, ow, hw1, hw2⟩ := lastW_mem l o.f2.toList n h2
            obtain ⟨cw, hcw⟩ := commit_some hg hw1
            rw [hw2] at hcw
            obtain ⟨co, hco⟩ := commit_some hg ho
            have e1 := hm _ _ hcw
            have e2 := hm _ _ hco
            have e3 := lastC_eq hg hcw l.length (commit_lt hcw)
            have e4 := lastC_eq hg hco l.length (commit_lt hco)
            have hne : cw ≠ n := by
              rintro rfl
              obtain ⟨x, hx, _, hx3⟩ := hcw
              rw [ho] at hx
              exact h1 (by rw [Option.some.inj hx]; exact hx3)
            have late : (!(decide ((cw : Int) > (n : Int)))) = decide ((cw : Int) < (n : Int)) := by
              by_cases hh : cw < n
              · have a1 : ¬ ((cw : Int) > (n : Int)) := by omega
                have a2 : (cw : Int) < (n : Int) := by omega
                simp [a1, a2]
              · have a1 : (cw : Int) > (n : Int) := by omega
                have a2 : ¬ ((cw : Int) < (n : Int)) := by omega
                simp [a1, a2]
            simp only [recRun, if_neg hno, e3, e4]
            generalize (lastW l o.f2.toList n).1 = w at *
            refine ev_shift ?_
            simp only [impl_RecoverableOf.j2, e1, e2, late, wrap_nat (show n < 9223372036854775807 by omega)]
            refine ev_if_neg (by rw [bq_int]; simp [h3]) ?_
            by_cases k1 : o.f0 = 1
            · simp only [if_pos k1]
              cases c <;> cases a <;> cases b <;> simpa using ih _ _ _
            · simp only [if_neg k1]
              cases c <;> simpa using ih _ _ _
  have key := drop_ind0 l (fun n rest => ∀ m : List (Int × Int), (∀ t c, c < n → isCommit l t c → mgetD m t 0 = (c : Int)) → Ev (fun k => impl_RecoverableOf.l0 k l l (l.length : Int) (n : Int) m) (recRun l l 0 true true true)) ?_ ?_
  · exact key [] (fun t c h => by omega)
  · intro m hm
    refine ev_shift ?_
    simp only [impl_RecoverableOf.l0]
    exact ev_if_neg (by omega) (second m (fun t c hc => hm t c (commit_lt hc) hc))
  · intro n o rest hn ho _ ih m hm
    refine ev_shift ?_
    simp only [impl_RecoverableOf.l0, rdO ho, wrap_nat (show n < 9223372036854775807 by omega)]
    refine ev_if_pos (by omega) (ev_if_pos (by omega) (ev_if_pos (by omega) ?_))
    by_cases h3 : o.f0 = 3
    · refine ev_if_pos h3 (ih _ (fun t c hc hcm => ?_))
      simp only [mgetD, mget_mput]
      by_cases ht : t = o.f1
      · have := commit_one hg hcm ⟨o, ho, ht.symm, h3⟩
        rw [if_pos ht, this]
        rfl
      · rw [if_neg ht]
        have hcn : c ≠ n := by
          rintro rfl
          obtain ⟨x, hx, hx1, _⟩ := hcm
          rw [ho] at hx
          exact ht (by rw [← hx1, Option.some.inj hx])
        exact hm t c (by omega) hcm
    · refine ev_if_neg h3 (ih _ (fun t c hc hcm => ?_))
      have hcn : c ≠ n := by
        rintro rfl
        obtain ⟨x, hx, _, hx3⟩ := hcm
        rw [ho] at hx
        exact h3 (by rw [Option.some.inj hx]; exact hx3)
      exact hm t c (by omega) hcm
def recB (l : List Op1) : Bool × Bool × Bool × Bool := if opsB l = true then recRun l l 0 true true true else (false, false, false, false)
theorem specRecB_ev (l : List Op1) (hl : l.length ≤ 1048576) (hk : sizesO l) : Ev (fun k => spec_RecoverableOf.f k l) (recB l) := by
  unfold spec_RecoverableOf.f recB
  refine ev_bind (specOps_ev l hl hk) ?_
  by_cases h : opsB l = true
  · rw [if_pos h]
    exact ev_if_pos h (specRec_ev l (opsB_from h).1 hl)
  · rw [if_neg h]
    exact ev_if_neg h (ev_some _)
theorem implRecB_ev (l : List Op1) (hl : l.length ≤ 1048576) (hk : sizesO l) : Ev (fun k => impl_RecoverableOf.f k l) (recB l) := by
  unfold impl_RecoverableOf.f recB
  refine ev_bind (implOps_ev l hl hk) ?_
  by_cases h : opsB l = true
  · rw [if_pos h]
    exact ev_if_pos h (implRec_ev l (opsB_from h).1 hl)
  · rw [if_neg h]
    exact ev_if_neg h (ev_some _)

theorem FnExactRecoverableOf : laws_FnExactRecoverableOf.Pure := by
  intro l hb hk
  have hl : l.length ≤ 140737488355328 := by omega
  have hs : ∀ y ∈ l, y.f2.size ≤ 140737488351232 := fun y hy => (hk y hy).2.2
  apply Ev.rounds
  unfold laws_FnExactRecoverableOf.f
  obtain ⟨v, hv, hv2⟩ := szOpS_ev l hl hs
  refine ev_bind hv ?_
  by_cases hneg : v < 0
  · exact ev_if_pos hneg (ev_some _)
  · refine ev_if_neg hneg ?_
    have hle0 : l.length ≤ 1048576 := by
      by_cases h : 1048576 < l.length
      · exact absurd (hv2 h) hneg
      · omega
    have hto := toOpS_ev l hle0
    have hle : (l.map cvO).length ≤ 1048576 := by simpa using hle0
    have hs2 : sizesO (l.map cvO) := by
      intro y hy
      obtain ⟨x, hx, rfl⟩ := List.mem_map.1 hy
      exact hs x hx
    generalize l.map cvO = m at hto hle hs2
    refine ev_bind hto (ev_bind (specRecB_ev m hle hs2) (ev_bind hto (ev_bind (implRecB_ev m hle hs2) ?_)))
    simp only [bne_self_eq_false, Bool.false_eq_true, if_false]
    refine ev_shift ?_
    simp only [laws_FnExactRecoverableOf.j0, Bool.false_eq_true, if_false]
    refine ev_bind hto (ev_bind (eqOpS_ev m (by omega)) ?_)
    simpa using ev_some true

end Go.Proofs.YtobkiheihjdanaaDoor.Pure
