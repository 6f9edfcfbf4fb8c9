/- The pure statement of the law FnExactGoodLog: at every list of entries the printed law answers true. -/
import Derived.Test.YtaenobdphjindaaDoorSayFnExactGoodLog
import Derived.Test.YtaenobdphjindaaDoorAid
import Derived.Test.YtaenobdphjindaaDoorTrim
namespace Go.Proofs.YtaenobdphjindaaDoor.Pure
open Go.RowKit Go.Proofs.YtaenobdphjindaaDoor.PFnExactGoodLog Go.Proofs.YtaenobdphjindaaDoorW.PrintWords Go.Proofs.YtaenobdphjindaaDoorW.PrintLast Go.Proofs.YtaenobdphjindaaDoor.Aid Go.Proofs.YtaenobdphjindaaDoor.MapW
set_option linter.unusedVariables false
set_option linter.unusedSimpArgs false

theorem in_f (a b c : Int) : impl_in.f a b c = some (decide (b ≤ a ∧ a ≤ c)) := by
  unfold impl_in.f
  by_cases h : a ≥ b
  · rw [if_pos h]; simp [h]
  · rw [if_neg h]; simp [h]
theorem l1In_f (a b c : Int) : spec_l1In.f a b c = some (decide (b ≤ a ∧ a ≤ c)) := by
  unfold spec_l1In.f
  by_cases h : a ≥ b
  · rw [if_pos h]; simp [h]
  · rw [if_neg h]; simp [h]
def tidB (a b : Int) : Bool := decide (0 ≤ a ∧ a ≤ 1048575) && decide (0 ≤ b ∧ b ≤ 16777215)
theorem isTid_f (a b : Int) (c : Bool) : impl_isTid.f a b c = some (tidB a b) := by
  unfold impl_isTid.f tidB
  rw [in_f, in_f]
  by_cases h : 0 ≤ a ∧ a ≤ 1048575 <;> simp [h]
theorem l1Tid_f (a b : Int) (c : Bool) : spec_l1Tid.f a b c = some (tidB a b) := by
  unfold spec_l1Tid.f tidB
  rw [l1In_f, l1In_f]
  by_cases h : 0 ≤ a ∧ a ≤ 1048575 <;> simp [h]

def keyByte (b : UInt8) : Bool := (decide (97 ≤ b.toNat) && decide (b.toNat ≤ 122)) || (decide (48 ≤ b.toNat) && decide (b.toNat ≤ 57))
def keyB (s : ByteArray) : Bool := decide (1 ≤ s.size ∧ s.size ≤ 8) && s.data.toList.all keyByte
def valByte (b : UInt8) : Bool := decide (32 ≤ b.toNat) && decide (b.toNat ≤ 126) && decide (b.toNat ≠ 59)
def valB (s : ByteArray) : Bool := s.data.toList.all valByte && decide (s.size ≤ 20)
def keyCut : List UInt8 := [97, 98, 99, 100, 101, 102, 103, 104, 105, 106, 107, 108, 109, 110, 111, 112, 113, 114, 115, 116, 117, 118, 119, 120, 121, 122, 48, 49, 50, 51, 52, 53, 54, 55, 56, 57]
theorem keyCut_has (b : UInt8) : keyCut.contains b = keyByte b := by
  have h : ∀ n : Fin 256, keyCut.contains (UInt8.ofNat n.val) = keyByte (UInt8.ofNat n.val) := by decide +kernel
  have := h ⟨b.toNat, b.toNat_lt⟩
  simpa using this
theorem drop_nil {α : Type} (p : α → Bool) (l : List α) : (l.dropWhile p).isEmpty = l.all p := by
  induction l with
  | nil => rfl
  | cons x l ih => cases h : p x <;> simp [List.dropWhile_cons, h, ih]
theorem all_drop {α : Type} (p : α → Bool) (l : List α) : (l.dropWhile p).all p = l.all p := by
  induction l with
  | nil => rfl
  | cons x l ih => cases h : p x <;> simp [List.dropWhile_cons, h, ih]
theorem trim_nil (l : List UInt8) : (Go.Lib.trimS l keyCut == []) = l.all keyByte := by
  have e : (Go.Lib.trimS l keyCut == []) = (Go.Lib.trimS l keyCut).isEmpty := by cases Go.Lib.trimS l keyCut <;> rfl
  rw [e]
  unfold Go.Lib.trimS Go.Lib.trimLeftS Go.Lib.trimRightS
  rw [drop_nil, List.all_reverse, all_drop, List.all_reverse]
  congr 1
  funext b
  exact keyCut_has b
theorem isKey_f (s : ByteArray) : impl_isKey.f s = some (keyB s) := by
  unfold impl_isKey.f keyB
  by_cases h1 : (s.size : Int) ≥ 1
  · rw [if_pos h1]
    by_cases h2 : (s.size : Int) ≤ 8
    · rw [if_pos h2]
      have e : MapW.strings_Trim.f s ⟨#[97, 98, 99, 100, 101, 102, 103, 104, 105, 106, 107, 108, 109, 110, 111, 112, 113, 114, 115, 116, 117, 118, 119, 120, 121, 122, 48, 49, 50, 51, 52, 53, 54, 55, 56, 57]⟩ = some ⟨(Go.Lib.trimS s.data.toList keyCut).toArray⟩ := by
        unfold MapW.strings_Trim.f
        rw [if_pos ⟨by omega, by decide, by decide⟩]
        rfl
      rw [e]
      have h3 : 1 ≤ s.size ∧ s.size ≤ 8 := by omega
      simp only [Option.bind_some, toList_data, trim_nil, h3, decide_true, Bool.true_and, and_self]
    · rw [if_neg h2]
      have h3 : ¬ (1 ≤ s.size ∧ s.size ≤ 8) := by omega
      simp only [h3, decide_false, Bool.false_and]
  · rw [if_neg h1]
    have h3 : ¬ (1 ≤ s.size ∧ s.size ≤ 8) := by omega
    simp only [h3, decide_false, Bool.false_and]
theorem l1Key_ev (s : ByteArray) (hs : s.size ≤ 140737488355328) : Ev (fun k => spec_l1Key.f k s) (keyB s) := by
  have key := all_loop (fun k i => spec_l1Key.l0 k s i) s.data.toList keyByte (decide (1 ≤ s.size ∧ s.size ≤ 8)) (ev_last fun k => ?_) (fun n b r hx hn hp H => ?_) (fun n b hx hn hp => ?_)
  · have e : keyB s = (s.data.toList.all keyByte && decide (1 ≤ s.size ∧ s.size ≤ 8)) := by unfold keyB; exact Bool.and_comm _ _
    rw [e]
    exact Ev.congr (fun k => rfl) key
  · simp only [spec_l1Key.l0]
    rw [← size_len, if_neg (by omega), l1In_f]
    simp only [Option.bind_some]
    congr 2
    exact propext ⟨fun h => by omega, fun h => by omega⟩
  · refine Ev.step (fun k => ?_) H
    rw [← size_len] at hn
    simp only [spec_l1Key.l0]
    rw [if_pos (by omega), if_pos (by omega), wrap_nat (by omega), bt_nat hx]
    simp only [keyByte, Bool.or_eq_true, Bool.and_eq_true, decide_eq_true_eq] at hp
    by_cases a1 : (b.toNat : Int) ≥ 97
    · rw [if_pos a1]
      by_cases a2 : (b.toNat : Int) ≤ 122
      · rw [if_pos a2]
      · rw [if_neg a2]; omega
    · rw [if_neg a1, if_pos (by omega), if_pos (by omega)]
  · refine ev_last fun k => ?_
    rw [← size_len] at hn
    simp only [spec_l1Key.l0]
    rw [if_pos (by omega), if_pos (by omega), bt_nat hx]
    simp only [keyByte, Bool.or_eq_false_iff, Bool.and_eq_false_iff, decide_eq_false_iff_not] at hp
    by_cases a1 : (b.toNat : Int) ≥ 97
    · rw [if_pos a1, if_neg (by omega)]
      by_cases a2 : (b.toNat : Int) ≥ 48
      · rw [if_pos a2, if_neg (by omega)]
      · rw [if_neg a2]
    · rw [if_neg a1]
      by_cases a2 : (b.toNat : Int) ≥ 48
      · rw [if_pos a2, if_neg (by omega)]
      · rw [if_neg a2]

theorem l1Value_ev (s : ByteArray) (hs : s.size ≤ 140737488355328) : Ev (fun k => spec_l1Value.f k s) (valB s) := by
  have key := all_loop (fun k i => spec_l1Value.l0 k s i) s.data.toList valByte (decide (s.size ≤ 20)) (ev_last fun k => ?_) (fun n b r hx hn hp H => ?_) (fun n b hx hn hp => ?_)
  · exact Ev.congr (fun k => rfl) key
  · simp only [spec_l1Value.l0]
    rw [← size_len, if_neg (by omega)]
    congr 2
    exact propext ⟨fun h => by omega, fun h => by omega⟩
  · refine Ev.step (fun k => ?_) H
    rw [← size_len] at hn
    simp only [valByte, Bool.and_eq_true, decide_eq_true_eq] at hp
    simp only [spec_l1Value.l0]
    rw [if_pos (by omega), if_pos (by omega), wrap_nat (by omega), bt_nat hx, if_neg (by omega), if_neg (by omega), if_neg (by omega)]
  · refine ev_last fun k => ?_
    rw [← size_len] at hn
    simp only [valByte, Bool.and_eq_false_iff, decide_eq_false_iff_not] at hp
    simp only [spec_l1Value.l0]
    rw [if_pos (by omega), if_pos (by omega), bt_nat hx]
    by_cases a1 : (b.toNat : Int) < 32
    · rw [if_pos a1]
    · rw [if_neg a1]
      by_cases a2 : (b.toNat : Int) > 126
      · rw [if_pos a2]
      · rw [if_neg a2, if_pos (by omega)]
theorem isValue_ev (s : ByteArray) (hs : s.size ≤ 140737488355328) : Ev (fun k => impl_isValue.f k s) (valB s) := by
  have key := all_loop (fun k i => impl_isValue.l0 k s (s.size : Int) i) s.data.toList valByte (decide (s.size ≤ 20)) (ev_last fun k => ?_) (fun n b r hx hn hp H => ?_) (fun n b hx hn hp => ?_)
  · exact Ev.congr (fun k => rfl) key
  · simp only [impl_isValue.l0]
    rw [← size_len, if_neg (by omega)]
    congr 2
    exact propext ⟨fun h => by omega, fun h => by omega⟩
  · refine Ev.step (fun k => ?_) H
    rw [← size_len] at hn
    simp only [valByte, Bool.and_eq_true, decide_eq_true_eq] at hp
    simp only [impl_isValue.l0]
    rw [if_pos (by omega), if_pos (by omega), if_pos (by omega), wrap_nat (by omega), bt_nat hx, if_neg (by omega), if_neg (by omega), if_neg (by omega)]
  · refine ev_last fun k => ?_
    rw [← size_len] at hn
    simp only [valByte, Bool.and_eq_false_iff, decide_eq_false_iff_not] at hp
    simp only [impl_isValue.l0]
    rw [if_pos (by omega), if_pos (by omega), if_pos (by omega), bt_nat hx]
    by_cases a1 : (b.toNat : Int) < 32
    · rw [if_pos a1]
    · rw [if_neg a1]
      by_cases a2 : (b.toNat : Int) > 126
      · rw [if_pos a2]
      · rw [if_neg a2, if_pos (by omega)]

abbrev En := S53
theorem rdN {xs : List En} {n : Nat} {x : En} (h : xs[n]? = some x) : rd_T53 xs (n : Int) = x := by simp [rd_T53, h]
theorem rdM {xs : List S50} {n : Nat} {x : S50} (h : xs[n]? = some x) : rd_T50 xs (n : Int) = x := by simp [rd_T50, h]
def someTid (x : En) : Bool := !(x.f3.f0 == 0) || (!(x.f3.f1 == 0) || x.f3.f2)
def entryB (x : En) : Bool := decide (0 ≤ x.f0 ∧ x.f0 ≤ 65535) && (keyB x.f1 && (valB x.f2 && (tidB x.f3.f0 x.f3.f1 && (!x.f3.f2 && someTid x))))
def alikeB (x o : En) : Bool := !(decide (o.f1.toList = x.f1.toList) && ((o.f3.f0 == x.f3.f0 && (o.f3.f1 == x.f3.f1 && o.f3.f2 == x.f3.f2)) && !decide (o.f2.toList = x.f2.toList)))
def logFrom (p : List En) : List En → Bool
  | [] => true
  | x :: r => entryB x && p.all (alikeB x) && logFrom (p ++ [x]) r
def alikeFrom (p : List En) : List En → Bool
  | [] => true
  | x :: r => p.all (alikeB x) && alikeFrom (p ++ [x]) r
def logB (l : List En) : Bool := logFrom [] l && decide (l.length ≤ 80)
theorem logFrom_two : ∀ (r p : List En), logFrom p r = (r.all entryB && alikeFrom p r)
  | [], _ => rfl
  | x :: r, p => by
    simp only [logFrom, alikeFrom, List.all_cons, logFrom_two r]
    cases entryB x <;> cases p.all (alikeB x) <;> cases r.all entryB <;> simp
theorem dec_eighty (n : Nat) : decide ((n : Int) ≤ 80) = decide (n ≤ 80) := by by_cases h : n ≤ 80 <;> simp [h] <;> omega
def sizesN (l : List En) : Prop := ∀ y ∈ l, y.f1.size ≤ 140737488351232 ∧ y.f2.size ≤ 140737488351232
theorem szEntryS_ev (l : List S50) (hl : l.length ≤ 140737488355328) (hk : ∀ y ∈ l, y.f1.size ≤ 140737488351232 ∧ y.f2.size ≤ 140737488351232) : ∃ v, Ev (fun k => laws_szEntryS.f k l 1048576) v ∧ (1048576 < l.length → v < 0) := by
  have w : wrap64 (1048576 - (l.length : Int)) = 1048576 - l.length := wrap_of (by omega) (by omega)
  obtain ⟨v, h1, h2⟩ := ev_exists_neg (g := fun k => laws_szEntryS.f k l 1048576) (c := 1048576 - (l.length : Int)) (f := fun k => laws_szEntryS.l0 k l (1048576 - (l.length : Int)) 0) (fun k => by unfold laws_szEntryS.f; rw [w]) (fun hc => by
    refine sz_loop (fun k a i => laws_szEntryS.l0 k l a i) (fun x a => laws_szEntry.f x.f0 x.f1 x.f2 x.f3.f0 x.f3.f1 x.f3.f2 a) l (fun x hx a h0 h1 => ?_) (fun k a => by simp [laws_szEntryS.l0]) (fun k n x a v hx hn hv => ?_) _ (by omega) (by omega)
    · obtain ⟨s1, s2⟩ := hk x hx
      have w1 : wrap64 (a - (x.f1.size : Int)) = a - x.f1.size := wrap_of (by omega) (by omega)
      have w2 : wrap64 (a - (x.f1.size : Int) - (x.f2.size : Int)) = a - x.f1.size - x.f2.size := wrap_of (by omega) (by omega)
      unfold laws_szEntry.f
      rw [w1]
      split
      · exact ⟨_, rfl, by omega⟩
      · rw [w2]
        split
        · exact ⟨_, rfl, by omega⟩
        · exact ⟨_, rfl, by omega⟩
    · simp only [laws_szEntryS.l0]
      rw [if_pos (by omega), if_pos (by omega), rdM hx, hv, wrap_nat (by omega)]
      rfl)
  exact ⟨v, h1, fun h => h2 (by omega)⟩
def cvN (x : S50) : En := ⟨x.f0, x.f1, x.f2, ⟨x.f3.f0, x.f3.f1, x.f3.f2⟩⟩
theorem toEntryS_ev (l : List S50) (hl : l.length ≤ 1048576) : Ev (fun k => laws_toEntryS.f k l) (l.map cvN) := by
  have key := fill_loop (fun k xs i => laws_toEntryS.l0 k l xs i) l cvN (fun k xs => by simp [laws_toEntryS.l0]) (fun n x xs hx hn hl' H => ?_) z53
  · refine Ev.congr (fun k => ?_) key
    simp only [laws_toEntryS.f]
    rw [if_pos (by omega), if_pos (by omega)]
    simp
  · refine Ev.step (fun k => ?_) H
    simp only [laws_toEntryS.l0, laws_toEntry.f, laws_toTid.f, Option.bind_some]
    rw [if_pos (by omega), if_pos (by omega), if_pos (by omega), wrap_nat (by omega), rdM hx]
    simp [cvN]
theorem eqEntry_f (a : Int) (c d : ByteArray) (e f : Int) (b : Bool) : laws_eqEntry.f a c d e f b a c d e f b = some true := by simp [laws_eqEntry.f, laws_eqTid.f]
theorem eqEntryS_ev (l : List En) (hl : l.length ≤ 140737488355328) : Ev (fun k => laws_eqEntryS.f k l l) true := by
  have key := eq_loop (fun k i => laws_eqEntryS.l0 k l l i) l l (fun _ _ => true) rfl (fun k => by simp [laws_eqEntryS.l0]) (fun n x y r hx hy hn _ he H => ?_) (fun n x y hx hy hn _ he => by cases he)
  · rw [zip_self_all (fun _ _ => true) (by simp) l] at key
    refine Ev.congr (fun k => ?_) key
    simp [laws_eqEntryS.f]
  · refine Ev.step (fun k => ?_) H
    simp only [laws_eqEntryS.l0]
    rw [if_pos (by omega), if_pos (by omega), if_pos (by omega), wrap_nat (by omega), eqEntry_f]
    simp
theorem l6Entry_ev (x : En) (h1 : x.f1.size ≤ 140737488351232) (h2 : x.f2.size ≤ 140737488351232) : Ev (fun k => spec_l6Entry.f k x.f0 x.f1 x.f2 x.f3.f0 x.f3.f1 x.f3.f2) (entryB x) := by
  unfold spec_l6Entry.f entryB
  simp only [l1In_f, l1Tid_f, Option.bind_some]
  refine ev_gate Iff.rfl fun _ => ?_
  refine ev_bind (l1Key_ev x.f1 (by omega)) (ev_gate Iff.rfl fun _ => ?_)
  refine ev_bind (l1Value_ev x.f2 (by omega)) (ev_gate Iff.rfl fun _ => ?_)
  refine ev_gate Iff.rfl fun _ => ?_
  cases hb : x.f3.f2 with
  | true => simpa using ev_some false
  | false => simpa [someTid, hb] using ev_some (someTid x)
theorem isEntry_ev (x : En) (h1 : x.f1.size ≤ 140737488351232) (h2 : x.f2.size ≤ 140737488351232) : Ev (fun k => impl_isEntry.f k x.f0 x.f1 x.f2 x.f3.f0 x.f3.f1 x.f3.f2) (entryB x) := by
  unfold impl_isEntry.f entryB
  simp only [in_f, isTid_f, isKey_f, Option.bind_some]
  refine ev_gate Iff.rfl fun _ => ?_
  refine ev_gate Iff.rfl fun _ => ?_
  refine ev_bind (isValue_ev x.f2 (by omega)) (ev_gate Iff.rfl fun _ => ?_)
  refine ev_gate Iff.rfl fun _ => ?_
  have : (!x.f3.f2 && someTid x) = (someTid x && !x.f3.f2) := Bool.and_comm _ _
  rw [this]
  exact ev_gate Iff.rfl fun _ => ev_some _
theorem specLog_ev (l : List En) (hl : l.length ≤ 1048576) (hk : sizesN l) : Ev (fun k => spec_GoodLog.f k l) (logB l) := by
  have key := drop_ind0 l (fun n rest => Ev (fun k => spec_GoodLog.l0 k l l (l.length : Int) (n : Int)) (logFrom (l.take n) rest && decide (l.length ≤ 80))) ?_ ?_
  · have h0 : Ev (fun k => spec_GoodLog.l0 k l l (l.length : Int) 0) (logB l) := by simpa [logB] using key
    exact Ev.congr (fun k => rfl) h0
  · refine ev_last (fun k => ?_)
    simp only [spec_GoodLog.l0]
    rw [if_neg (by omega)]
    simp [logFrom, dec_eighty]
  · intro n x rest hn hx _ ih
    rw [take_snoc hx] at ih
    have hlen : (l.take n).length = n := by simp; omega
    obtain ⟨s1, s2⟩ := hk x (List.mem_of_getElem? hx)
    have hno : logFrom (l.take n) (x :: rest) = (entryB x && (l.take n).all (alikeB x) && logFrom (l.take n ++ [x]) rest) := rfl
    have inner : Ev (fun k => spec_GoodLog.l1 k l l (l.length : Int) (n : Int) (l.take n) ((l.take n).length : Int) 0 x.f0 x.f1 x.f2 x.f3.f0 x.f3.f1 x.f3.f2) ((l.take n).all (alikeB x) && (logFrom (l.take n ++ [x]) rest && decide (l.length ≤ 80))) := by
      refine all_loop (fun k i => spec_GoodLog.l1 k l l (l.length : Int) (n : Int) (l.take n) ((l.take n).length : Int) i x.f0 x.f1 x.f2 x.f3.f0 x.f3.f1 x.f3.f2) (l.take n) (alikeB x) _ ?_ ?_ ?_
      · refine ev_shift ?_
        simp only [spec_GoodLog.l1]
        refine ev_if_neg (by omega) ?_
        rw [wrap_nat (by omega)]
        exact ih
      · intro j o r ho hj hp H
        refine ev_shift ?_
        simp only [spec_GoodLog.l1, rdN ho, wrap_nat (show j < 9223372036854775807 by omega)]
        refine ev_if_pos (by omega) (ev_if_pos (by omega) (ev_if_pos (by omega) ?_))
        by_cases a1 : o.f1.toList = x.f1.toList
        · refine ev_if_pos a1 ?_
          cases a2 : (o.f3.f0 == x.f3.f0 && (o.f3.f1 == x.f3.f1 && o.f3.f2 == x.f3.f2)) with
          | true =>
            refine ev_if_pos rfl ?_
            have : o.f2.toList = x.f2.toList := by
              simp only [alikeB, a1, decide_true, a2, Bool.true_and, Bool.not_not, decide_eq_true_eq] at hp
              exact hp
            exact ev_if_pos this H
          | false => exact ev_if_neg (by simp) H
        · exact ev_if_neg a1 H
      · intro j o ho hj hp
        simp only [alikeB, Bool.not_eq_false', Bool.and_eq_true, decide_eq_true_eq, Bool.not_eq_true', decide_eq_false_iff_not] at hp
        refine ev_last (fun k => ?_)
        simp only [spec_GoodLog.l1, rdN ho]
        rw [if_pos (by omega), if_pos (by omega), if_pos (by omega), if_pos hp.1, if_pos (by simpa using hp.2.1), if_neg hp.2.2]
    refine ev_shift ?_
    simp only [spec_GoodLog.l0, rdN hx]
    refine ev_if_pos (by omega) (ev_if_pos (by omega) (ev_if_pos (by omega) (ev_bind (l6Entry_ev x s1 s2) ?_)))
    rw [hno, Bool.and_assoc, Bool.and_assoc]
    refine ev_gate Iff.rfl fun _ => ev_if_pos (by omega) ?_
    simp only [Option.bind_some, Int.toNat_natCast]
    exact inner
theorem isLog1_ev (x : En) (h1 : x.f1.size ≤ 140737488351232) (h2 : x.f2.size ≤ 140737488351232) : Ev (fun k => impl_isLog_1.f k x.f0 x.f1 x.f2 x.f3.f0 x.f3.f1 x.f3.f2) (!entryB x) := by
  unfold impl_isLog_1.f
  exact ev_bind (isEntry_ev x h1 h2) (ev_some _)
theorem containsBad_ev (l : List En) (hl : l.length ≤ 1048576) (hk : sizesN l) : Ev (fun k => slices_ContainsFunc_impl_Entry_impl_Entry_h57.f k l) (l.any (fun x => !entryB x)) := by
  obtain ⟨r, h1, h2⟩ := idx_loop (fun k i => slices_IndexFunc_impl_Entry_impl_Entry_h57.l0 k l (l.length : Int) i) l (fun x => !entryB x)
    (fun k => by simp only [slices_IndexFunc_impl_Entry_impl_Entry_h57.l0]; rw [if_neg (by omega)])
    (fun n x hx hn hp => ev_shift (by
      obtain ⟨s1, s2⟩ := hk x (List.mem_of_getElem? hx)
      simp only [slices_IndexFunc_impl_Entry_impl_Entry_h57.l0, rdN hx]
      exact ev_if_pos (by omega) (ev_if_pos (by omega) (ev_if_pos (by omega) (ev_bind (isLog1_ev x s1 s2) (ev_if_pos hp (ev_some _)))))))
    (fun n x r hx hn hp H => ev_shift (by
      obtain ⟨s1, s2⟩ := hk x (List.mem_of_getElem? hx)
      simp only [slices_IndexFunc_impl_Entry_impl_Entry_h57.l0, rdN hx, wrap_nat (show n < 9223372036854775807 by omega)]
      exact ev_if_pos (by omega) (ev_if_pos (by omega) (ev_if_pos (by omega) (ev_bind (isLog1_ev x s1 s2) (ev_if_neg (by rw [hp]; simp) H))))))
  unfold slices_ContainsFunc_impl_Entry_impl_Entry_h57.f slices_IndexFunc_impl_Entry_impl_Entry_h57.f
  refine ev_bind h1 ?_
  simp only [h2]
  exact ev_some _
theorem areAlike_ev (l : List En) (hl : l.length ≤ 1048576) : Ev (fun k => impl_areAlike.f k l) (alikeFrom [] l) := by
  have key := drop_ind0 l (fun n rest => Ev (fun k => impl_areAlike.l0 k l l (l.length : Int) (n : Int)) (alikeFrom (l.take n) rest)) ?_ ?_
  · have h0 : Ev (fun k => impl_areAlike.l0 k l l (l.length : Int) 0) (alikeFrom [] l) := by simpa using key
    exact Ev.congr (fun k => rfl) h0
  · refine ev_last (fun k => ?_)
    simp only [impl_areAlike.l0]
    rw [if_neg (by omega)]
    rfl
  · intro n x rest hn hx _ ih
    rw [take_snoc hx] at ih
    have hlen : (l.take n).length = n := by simp; omega
    have hno : alikeFrom (l.take n) (x :: rest) = ((l.take n).all (alikeB x) && alikeFrom (l.take n ++ [x]) rest) := rfl
    refine ev_shift ?_
    simp only [impl_areAlike.l0, rdN hx]
    refine ev_if_pos (by omega) (ev_if_pos (by omega) (ev_if_pos (by omega) (ev_if_pos (by omega) ?_)))
    simp only [Option.bind_some, Int.toNat_natCast]
    rw [hno]
    refine all_loop (fun k i => impl_areAlike.l1 k l l (l.length : Int) (n : Int) (l.take n) ((l.take n).length : Int) i x.f0 x.f1 x.f2 x.f3.f0 x.f3.f1 x.f3.f2) (l.take n) (alikeB x) _ ?_ ?_ ?_
    · refine ev_shift ?_
      simp only [impl_areAlike.l1]
      refine ev_if_neg (by omega) ?_
      rw [wrap_nat (by omega)]
      exact ih
    · intro j o r ho hj hp H
      refine ev_shift ?_
      simp only [impl_areAlike.l1, rdN ho, wrap_nat (show j < 9223372036854775807 by omega)]
      refine ev_if_pos (by omega) (ev_if_pos (by omega) (ev_if_pos (by omega) ?_))
      by_cases a1 : x.f1.toList = o.f1.toList
      · refine ev_if_pos a1 ?_
        by_cases a2 : (x.f3.f0 == o.f3.f0 && (x.f3.f1 == o.f3.f1 && x.f3.f2 == o.f3.f2)) = true
        · refine ev_if_pos a2 ?_
          have : x.f2.toList = o.f2.toList := by
            simp only [Bool.and_eq_true, beq_iff_eq] at a2
            have a2' : (o.f3.f0 == x.f3.f0 && (o.f3.f1 == x.f3.f1 && o.f3.f2 == x.f3.f2)) = true := by simp [a2.1, a2.2.1, a2.2.2]
            simp only [alikeB, a1.symm, decide_true, a2', Bool.true_and, Bool.not_not, decide_eq_true_eq] at hp
            exact hp.symm
          exact ev_if_pos this H
        · exact ev_if_neg a2 H
      · exact ev_if_neg a1 H
    · intro j o ho hj hp
      simp only [alikeB, Bool.not_eq_false', Bool.and_eq_true, decide_eq_true_eq, Bool.not_eq_true', decide_eq_false_iff_not, beq_iff_eq] at hp
      obtain ⟨p1, ⟨p2, p3, p4⟩, p5⟩ := hp
      refine ev_last (fun k => ?_)
      simp only [impl_areAlike.l1, rdN ho]
      rw [if_pos (by omega), if_pos (by omega), if_pos (by omega), if_pos p1.symm, if_pos (by simp [p2, p3, p4]), if_neg (fun e => p5 e.symm)]
theorem any_not_all (l : List En) : l.any (fun x => !entryB x) = !(l.all entryB) := by
  induction l with
  | nil => rfl
  | cons x l ih => simp only [List.any_cons, List.all_cons, ih]; cases entryB x <;> simp
theorem isLog_ev (l : List En) (hl : l.length ≤ 1048576) (hk : sizesN l) : Ev (fun k => impl_isLog.f k l) (logB l) := by
  unfold impl_isLog.f logB
  rw [logFrom_two, Bool.and_comm, ← dec_eighty]
  refine ev_gate decide_eq_true_iff.symm fun _ => ev_bind (containsBad_ev l hl hk) ?_
  rw [any_not_all]
  cases l.all entryB with
  | false => simpa using ev_some false
  | true =>
    simp only [Bool.not_true, Bool.false_eq_true, if_false, Bool.true_and]
    exact ev_bind (areAlike_ev l hl) (ev_some _)

theorem FnExactGoodLog : laws_FnExactGoodLog.Pure := by
  intro l hb hk
  have hl : l.length ≤ 140737488355328 := by omega
  have hs : ∀ y ∈ l, y.f1.size ≤ 140737488351232 ∧ y.f2.size ≤ 140737488351232 := fun y hy => ⟨(hk y hy).2.1, (hk y hy).2.2.1⟩
  apply Ev.rounds
  unfold laws_FnExactGoodLog.f
  obtain ⟨v, hv, hv2⟩ := szEntryS_ev l hl hs
  refine ev_bind hv ?_
  by_cases hneg : v < 0
  · exact ev_if_pos hneg (ev_some _)
  · refine ev_if_neg hneg ?_
    have hle0 : l.length ≤ 1048576 := by
      by_cases h : 1048576 < l.length
      · exact absurd (hv2 h) hneg
      · omega
    have hto := toEntryS_ev l hle0
    have hle : (l.map cvN).length ≤ 1048576 := by simpa using hle0
    have hs2 : sizesN (l.map cvN) := by
      intro y hy
      obtain ⟨x, hx, rfl⟩ := List.mem_map.1 hy
      exact hs x hx
    generalize l.map cvN = m at hto hle hs2
    refine ev_bind hto (ev_bind (specLog_ev m hle hs2) (ev_bind hto (ev_bind (a := logB m) ?_ ?_)))
    · unfold impl_GoodLog.f
      exact ev_bind (isLog_ev m hle hs2) (ev_some _)
    · simp only [bne_self_eq_false, Bool.false_eq_true, if_false]
      refine ev_bind hto (ev_bind (eqEntryS_ev m (by omega)) ?_)
      simpa using ev_some true

end Go.Proofs.YtaenobdphjindaaDoor.Pure
