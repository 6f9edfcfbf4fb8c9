/- The pure statement of the law FnExactMergeLogs: at every two logs the printed law answers true. -/
import Derived.Test.YtaenobdphjindaaDoorSayFnExactMergeLogs
import Derived.Test.YtaenobdphjindaaDoorAid
import Derived.Test.YtaenobdphjindaaDoorTrim
namespace Go.Proofs.YtaenobdphjindaaDoor.Pure
open Go.RowKit Go.Proofs.YtaenobdphjindaaDoor.PFnExactMergeLogs Go.Proofs.YtaenobdphjindaaDoorW.PrintWords Go.Proofs.YtaenobdphjindaaDoorW.PrintLast Go.Proofs.YtaenobdphjindaaDoor.Aid Go.Proofs.YtaenobdphjindaaDoor.MapW
set_option linter.unusedVariables false
set_option linter.unusedSimpArgs false

theorem in_f (a b c : Int) : impl_in.f a b c = some (decide (b ≤ a ∧ a ≤ c)) := by
  unfold impl_in.f
  by_cases h : a ≥ b
  · rw [if_pos h]; simp [h]
  · rw [if_neg h]; simp [h]
theorem l1In_f (a b c : Int) : spec_l1In.f a b c = some (decide (b ≤ a ∧ a ≤ c)) := by
  unfold spec_l1In.f
  by_cases h : a ≥ b
  · rw [if_pos h]; simp [h]
  · rw [if_neg h]; simp [h]
def tidB (a b : Int) : Bool := decide (0 ≤ a ∧ a ≤ 1048575) && decide (0 ≤ b ∧ b ≤ 16777215)
theorem isTid_f (a b : Int) (c : Bool) : impl_isTid.f a b c = some (tidB a b) := by
  unfold impl_isTid.f tidB
  rw [in_f, in_f]
  by_cases h : 0 ≤ a ∧ a ≤ 1048575 <;> simp [h]
theorem l1Tid_f (a b : Int) (c : Bool) : spec_l1Tid.f a b c = some (tidB a b) := by
  unfold spec_l1Tid.f tidB
  rw [l1In_f, l1In_f]
  by_cases h : 0 ≤ a ∧ a ≤ 1048575 <;> simp [h]

def keyByte (b : UInt8) : Bool := (decide (97 ≤ b.toNat) && decide (b.toNat ≤ 122)) || (decide (48 ≤ b.toNat) && decide (b.toNat ≤ 57))
def keyB (s : ByteArray) : Bool := decide (1 ≤ s.size ∧ s.size ≤ 8) && s.data.toList.all keyByte
def valByte (b : UInt8) : Bool := decide (32 ≤ b.toNat) && decide (b.toNat ≤ 126) && decide (b.toNat ≠ 59)
def valB (s : ByteArray) : Bool := s.data.toList.all valByte && decide (s.size ≤ 20)
def keyCut : List UInt8 := [97, 98, 99, 100, 101, 102, 103, 104, 105, 106, 107, 108, 109, 110, 111, 112, 113, 114, 115, 116, 117, 118, 119, 120, 121, 122, 48, 49, 50, 51, 52, 53, 54, 55, 56, 57]
theorem keyCut_has (b : UInt8) : keyCut.contains b = keyByte b := by
  have h : ∀ n : Fin 256, keyCut.contains (UInt8.ofNat n.val) = keyByte (UInt8.ofNat n.val) := by decide +kernel
  have := h ⟨b.toNat, b.toNat_lt⟩
  simpa using this
theorem drop_nil {α : Type} (p : α → Bool) (l : List α) : (l.dropWhile p).isEmpty = l.all p := by
  induction l with
  | nil => rfl
  | cons x l ih => cases h : p x <;> simp [List.dropWhile_cons, h, ih]
theorem all_drop {α : Type} (p : α → Bool) (l : List α) : (l.dropWhile p).all p = l.all p := by
  induction l with
  | nil => rfl
  | cons x l ih => cases h : p x <;> simp [List.dropWhile_cons, h, ih]
theorem trim_nil (l : List UInt8) : (Go.Lib.trimS l keyCut == []) = l.all keyByte := by
  have e : (Go.Lib.trimS l keyCut == []) = (Go.Lib.trimS l keyCut).isEmpty := by cases Go.Lib.trimS l keyCut <;> rfl
  rw [e]
  unfold Go.Lib.trimS Go.Lib.trimLeftS Go.Lib.trimRightS
  rw [drop_nil, List.all_reverse, all_drop, List.all_reverse]
  congr 1
  funext b
  exact keyCut_has b
theorem isKey_f (s : ByteArray) : impl_isKey.f s = some (keyB s) := by
  unfold impl_isKey.f keyB
  by_cases h1 : (s.size : Int) ≥ 1
  · rw [if_pos h1]
    by_cases h2 : (s.size : Int) ≤ 8
    · rw [if_pos h2]
      have e : MapW.strings_Trim.f s ⟨#[97, 98, 99, 100, 101, 102, 103, 104, 105, 106, 107, 108, 109, 110, 111, 112, 113, 114, 115, 116, 117, 118, 119, 120, 121, 122, 48, 49, 50, 51, 52, 53, 54, 55, 56, 57]⟩ = some ⟨(Go.Lib.trimS s.data.toList keyCut).toArray⟩ := by
        unfold MapW.strings_Trim.f
        rw [if_pos ⟨by omega, by decide, by decide⟩]
        rfl
      rw [e]
      have h3 : 1 ≤ s.size ∧ s.size ≤ 8 := by omega
      simp only [Option.bind_some, toList_data, trim_nil, h3, decide_true, Bool.true_and, and_self]
    · rw [if_neg h2]
      have h3 : ¬ (1 ≤ s.size ∧ s.size ≤ 8) := by omega
      simp only [h3, decide_false, Bool.false_and]
  · rw [if_neg h1]
    have h3 : ¬ (1 ≤ s.size ∧ s.size ≤ 8) := by omega
    simp only [h3, decide_false, Bool.false_and]
theorem l1Key_ev (s : ByteArray) (hs : s.size ≤ 140737488355328) : Ev (fun k => spec_l1Key.f k s) (keyB s) := by
  have key := all_loop (fun k i => spec_l1Key.l0 k s i) s.data.toList keyByte (decide (1 ≤ s.size ∧ s.size ≤ 8)) (ev_last fun k => ?_) (fun n b r hx hn hp H => ?_) (fun n b hx hn hp => ?_)
  · have e : keyB s = (s.data.toList.all keyByte && decide (1 ≤ s.size ∧ s.size ≤ 8)) := by unfold keyB; exact Bool.and_comm _ _
    rw [e]
    exact Ev.congr (fun k => rfl) key
  · simp only [spec_l1Key.l0]
    rw [← size_len, if_neg (by omega), l1In_f]
    simp only [Option.bind_some]
    congr 2
    exact propext ⟨fun h => by omega, fun h => by omega⟩
  · refine Ev.step (fun k => ?_) H
    rw [← size_len] at hn
    simp only [spec_l1Key.l0]
    rw [if_pos (by omega), if_pos (by omega), wrap_nat (by omega), bt_nat hx]
    simp only [keyByte, Bool.or_eq_true, Bool.and_eq_true, decide_eq_true_eq] at hp
    by_cases a1 : (b.toNat : Int) ≥ 97
    · rw [if_pos a1]
      by_cases a2 : (b.toNat : Int) ≤ 122
      · rw [if_pos a2]
      · rw [if_neg a2]; omega
    · rw [if_neg a1, if_pos (by omega), if_pos (by omega)]
  · refine ev_last fun k => ?_
    rw [← size_len] at hn
    simp only [spec_l1Key.l0]
    rw [if_pos (by omega), if_pos (by omega), bt_nat hx]
    simp only [keyByte, Bool.or_eq_false_iff, Bool.and_eq_false_iff, decide_eq_false_iff_not] at hp
    by_cases a1 : (b.toNat : Int) ≥ 97
    · rw [if_pos a1, if_neg (by omega)]
      by_cases a2 : (b.toNat : Int) ≥ 48
      · rw [if_pos a2, if_neg (by omega)]
      · rw [if_neg a2]
    · rw [if_neg a1]
      by_cases a2 : (b.toNat : Int) ≥ 48
      · rw [if_pos a2, if_neg (by omega)]
      · rw [if_neg a2]

theorem l1Value_ev (s : ByteArray) (hs : s.size ≤ 140737488355328) : Ev (fun k => spec_l1Value.f k s) (valB s) := by
  have key := all_loop (fun k i => spec_l1Value.l0 k s i) s.data.toList valByte (decide (s.size ≤ 20)) (ev_last fun k => ?_) (fun n b r hx hn hp H => ?_) (fun n b hx hn hp => ?_)
  · exact Ev.congr (fun k => rfl) key
  · simp only [spec_l1Value.l0]
    rw [← size_len, if_neg (by omega)]
    congr 2
    exact propext ⟨fun h => by omega, fun h => by omega⟩
  · refine Ev.step (fun k => ?_) H
    rw [← size_len] at hn
    simp only [valByte, Bool.and_eq_true, decide_eq_true_eq] at hp
    simp only [spec_l1Value.l0]
    rw [if_pos (by omega), if_pos (by omega), wrap_nat (by omega), bt_nat hx, if_neg (by omega), if_neg (by omega), if_neg (by omega)]
  · refine ev_last fun k => ?_
    rw [← size_len] at hn
    simp only [valByte, Bool.and_eq_false_iff, decide_eq_false_iff_not] at hp
    simp only [spec_l1Value.l0]
    rw [if_pos (by omega), if_pos (by omega), bt_nat hx]
    by_cases a1 : (b.toNat : Int) < 32
    · rw [if_pos a1]
    · rw [if_neg a1]
      by_cases a2 : (b.toNat : Int) > 126
      · rw [if_pos a2]
      · rw [if_neg a2, if_pos (by omega)]
theorem isValue_ev (s : ByteArray) (hs : s.size ≤ 140737488355328) : Ev (fun k => impl_isValue.f k s) (valB s) := by
  have key := all_loop (fun k i => impl_isValue.l0 k s (s.size : Int) i) s.data.toList valByte (decide (s.size ≤ 20)) (ev_last fun k => ?_) (fun n b r hx hn hp H => ?_) (fun n b hx hn hp => ?_)
  · exact Ev.congr (fun k => rfl) key
  · simp only [impl_isValue.l0]
    rw [← size_len, if_neg (by omega)]
    congr 2
    exact propext ⟨fun h => by omega, fun h => by omega⟩
  · refine Ev.step (fun k => ?_) H
    rw [← size_len] at hn
    simp only [valByte, Bool.and_eq_true, decide_eq_true_eq] at hp
    simp only [impl_isValue.l0]
    rw [if_pos (by omega), if_pos (by omega), if_pos (by omega), wrap_nat (by omega), bt_nat hx, if_neg (by omega), if_neg (by omega), if_neg (by omega)]
  · refine ev_last fun k => ?_
    rw [← size_len] at hn
    simp only [valByte, Bool.and_eq_false_iff, decide_eq_false_iff_not] at hp
    simp only [impl_isValue.l0]
    rw [if_pos (by omega), if_pos (by omega), if_pos (by omega), bt_nat hx]
    by_cases a1 : (b.toNat : Int) < 32
    · rw [if_pos a1]
    · rw [if_neg a1]
      by_cases a2 : (b.toNat : Int) > 126
      · rw [if_pos a2]
      · rw [if_neg a2, if_pos (by omega)]

abbrev En := S53
theorem rdN {xs : List En} {n : Nat} {x : En} (h : xs[n]? = some x) : rd_T53 xs (n : Int) = x := by simp [rd_T53, h]
theorem rdM {xs : List S50} {n : Nat} {x : S50} (h : xs[n]? = some x) : rd_T50 xs (n : Int) = x := by simp [rd_T50, h]
def someTid (x : En) : Bool := !(x.f3.f0 == 0) || (!(x.f3.f1 == 0) || x.f3.f2)
def entryB (x : En) : Bool := decide (0 ≤ x.f0 ∧ x.f0 ≤ 65535) && (keyB x.f1 && (valB x.f2 && (tidB x.f3.f0 x.f3.f1 && (!x.f3.f2 && someTid x))))
def alikeB (x o : En) : Bool := !(decide (o.f1.toList = x.f1.toList) && ((o.f3.f0 == x.f3.f0 && (o.f3.f1 == x.f3.f1 && o.f3.f2 == x.f3.f2)) && !decide (o.f2.toList = x.f2.toList)))
def logFrom (p : List En) : List En → Bool
  | [] => true
  | x :: r => entryB x && p.all (alikeB x) && logFrom (p ++ [x]) r
def alikeFrom (p : List En) : List En → Bool
  | [] => true
  | x :: r => p.all (alikeB x) && alikeFrom (p ++ [x]) r
def logB (l : List En) : Bool := logFrom [] l && decide (l.length ≤ 80)
theorem logFrom_two : ∀ (r p : List En), logFrom p r = (r.all entryB && alikeFrom p r)
  | [], _ => rfl
  | x :: r, p => by
    simp only [logFrom, alikeFrom, List.all_cons, logFrom_two r]
    cases entryB x <;> cases p.all (alikeB x) <;> cases r.all entryB <;> simp
theorem dec_eighty (n : Nat) : decide ((n : Int) ≤ 80) = decide (n ≤ 80) := by by_cases h : n ≤ 80 <;> simp [h] <;> omega
def sizesN (l : List En) : Prop := ∀ y ∈ l, y.f1.size ≤ 140737488351232 ∧ y.f2.size ≤ 140737488351232
theorem szEntryS_ev (l : List S50) (hl : l.length ≤ 140737488355328) (hk : ∀ y ∈ l, y.f1.size ≤ 140737488351232 ∧ y.f2.size ≤ 140737488351232) : ∃ v, Ev (fun k => laws_szEntryS.f k l 1048576) v ∧ (1048576 < l.length → v < 0) := by
  have w : wrap64 (1048576 - (l.length : Int)) = 1048576 - l.length := wrap_of (by omega) (by omega)
  obtain ⟨v, h1, h2⟩ := ev_exists_neg (g := fun k => laws_szEntryS.f k l 1048576) (c := 1048576 - (l.length : Int)) (f := fun k => laws_szEntryS.l0 k l (1048576 - (l.length : Int)) 0) (fun k => by unfold laws_szEntryS.f; rw [w]) (fun hc => by
    refine sz_loop (fun k a i => laws_szEntryS.l0 k l a i) (fun x a => laws_szEntry.f x.f0 x.f1 x.f2 x.f3.f0 x.f3.f1 x.f3.f2 a) l (fun x hx a h0 h1 => ?_) (fun k a => by simp [laws_szEntryS.l0]) (fun k n x a v hx hn hv => ?_) _ (by omega) (by omega)
    · obtain ⟨s1, s2⟩ := hk x hx
      have w1 : wrap64 (a - (x.f1.size : Int)) = a - x.f1.size := wrap_of (by omega) (by omega)
      have w2 : wrap64 (a - (x.f1.size : Int) - (x.f2.size : Int)) = a - x.f1.size - x.f2.size := wrap_of (by omega) (by omega)
      unfold laws_szEntry.f
      rw [w1]
      split
      · exact ⟨_, rfl, by omega⟩
      · rw [w2]
        split
        · exact ⟨_, rfl, by omega⟩
        · exact ⟨_, rfl, by omega⟩
    · simp only [laws_szEntryS.l0]
      rw [if_pos (by omega), if_pos (by omega), rdM hx, hv, wrap_nat (by omega)]
      rfl)
  exact ⟨v, h1, fun h => h2 (by omega)⟩
def cvN (x : S50) : En := ⟨x.f0, x.f1, x.f2, ⟨x.f3.f0, x.f3.f1, x.f3.f2⟩⟩
theorem toEntryS_ev (l : List S50) (hl : l.length ≤ 1048576) : Ev (fun k => laws_toEntryS.f k l) (l.map cvN) := by
  have key := fill_loop (fun k xs i => laws_toEntryS.l0 k l xs i) l cvN (fun k xs => by simp [laws_toEntryS.l0]) (fun n x xs hx hn hl' H => ?_) z53
  · refine Ev.congr (fun k => ?_) key
    simp only [laws_toEntryS.f]
    rw [if_pos (by omega), if_pos (by omega)]
    simp
  · refine Ev.step (fun k => ?_) H
    simp only [laws_toEntryS.l0, laws_toEntry.f, laws_toTid.f, Option.bind_some]
    rw [if_pos (by omega), if_pos (by omega), if_pos (by omega), wrap_nat (by omega), rdM hx]
    simp [cvN]
theorem eqEntry_f (a : Int) (c d : ByteArray) (e f : Int) (b : Bool) : laws_eqEntry.f a c d e f b a c d e f b = some true := by simp [laws_eqEntry.f, laws_eqTid.f]
theorem eqEntryS_ev (l : List En) (hl : l.length ≤ 140737488355328) : Ev (fun k => laws_eqEntryS.f k l l) true := by
  have key := eq_loop (fun k i => laws_eqEntryS.l0 k l l i) l l (fun _ _ => true) rfl (fun k => by simp [laws_eqEntryS.l0]) (fun n x y r hx hy hn _ he H => ?_) (fun n x y hx hy hn _ he => by cases he)
  · rw [zip_self_all (fun _ _ => true) (by simp) l] at key
    refine Ev.congr (fun k => ?_) key
    simp [laws_eqEntryS.f]
  · refine Ev.step (fun k => ?_) H
    simp only [laws_eqEntryS.l0]
    rw [if_pos (by omega), if_pos (by omega), if_pos (by omega), wrap_nat (by omega), eqEntry_f]
    simp
theorem l6Entry_ev (x : En) (h1 : x.f1.size ≤ 140737488351232) (h2 : x.f2.size ≤ 140737488351232) : Ev (fun k => spec_l6Entry.f k x.f0 x.f1 x.f2 x.f3.f0 x.f3.f1 x.f3.f2) (entryB x) := by
  unfold spec_l6Entry.f entryB
  simp only [l1In_f, l1Tid_f, Option.bind_some]
  refine ev_gate Iff.rfl fun _ => ?_
  refine ev_bind (l1Key_ev x.f1 (by omega)) (ev_gate Iff.rfl fun _ => ?_)
  refine ev_bind (l1Value_ev x.f2 (by omega)) (ev_gate Iff.rfl fun _ => ?_)
  refine ev_gate Iff.rfl fun _ => ?_
  cases hb : x.f3.f2 with
  | true => simpa using ev_some false
  | false => simpa [someTid, hb] using ev_some (someTid x)
theorem isEntry_ev (x : En) (h1 : x.f1.size ≤ 140737488351232) (h2 : x.f2.size ≤ 140737488351232) : Ev (fun k => impl_isEntry.f k x.f0 x.f1 x.f2 x.f3.f0 x.f3.f1 x.f3.f2) (entryB x) := by
  unfold impl_isEntry.f entryB
  simp only [in_f, isTid_f, isKey_f, Option.bind_some]
  refine ev_gate Iff.rfl fun _ => ?_
  refine ev_gate Iff.rfl fun _ => ?_
  refine ev_bind (isValue_ev x.f2 (by omega)) (ev_gate Iff.rfl fun _ => ?_)
  refine ev_gate Iff.rfl fun _ => ?_
  have : (!x.f3.f2 && someTid x) = (someTid x && !x.f3.f2) := Bool.and_comm _ _
  rw [this]
  exact ev_gate Iff.rfl fun _ => ev_some _
theorem specLog_ev (l : List En) (hl : l.length ≤ 1048576) (hk : sizesN l) : Ev (fun k => spec_GoodLog.f k l) (logB l) := by
  have key := drop_ind0 l (fun n rest => Ev (fun k => spec_GoodLog.l0 k l l (l.length : Int) (n : Int)) (logFrom (l.take n) rest && decide (l.length ≤ 80))) ?_ ?_
  · have h0 : Ev (fun k => spec_GoodLog.l0 k l l (l.length : Int) 0) (logB l) := by simpa [logB] using key
    exact Ev.congr (fun k => rfl) h0
  · refine ev_last (fun k => ?_)
    simp only [spec_GoodLog.l0]
    rw [if_neg (by omega)]
    simp [logFrom, dec_eighty]
  · intro n x rest hn hx _ ih
    rw [take_snoc hx] at ih
    have hlen : (l.take n).length = n := by simp; omega
    obtain ⟨s1, s2⟩ := hk x (List.mem_of_getElem? hx)
    have hno : logFrom (l.take n) (x :: rest) = (entryB x && (l.take n).all (alikeB x) && logFrom (l.take n ++ [x]) rest) := rfl
    have inner : Ev (fun k => spec_GoodLog.l1 k l l (l.length : Int) (n : Int) (l.take n) ((l.take n).length : Int) 0 x.f0 x.f1 x.f2 x.f3.f0 x.f3.f1 x.f3.f2) ((l.take n).all (alikeB x) && (logFrom (l.take n ++ [x]) rest && decide (l.length ≤ 80))) := by
      refine all_loop (fun k i => spec_GoodLog.l1 k l l (l.length : Int) (n : Int) (l.take n) ((l.take n).length : Int) i x.f0 x.f1 x.f2 x.f3.f0 x.f3.f1 x.f3.f2) (l.take n) (alikeB x) _ ?_ ?_ ?_
      · refine ev_shift ?_
        simp only [spec_GoodLog.l1]
        refine ev_if_neg (by omega) ?_
        rw [wrap_nat (by omega)]
        exact ih
      · intro j o r ho hj hp H
        refine ev_shift ?_
        simp only [spec_GoodLog.l1, rdN ho, wrap_nat (show j < 9223372036854775807 by omega)]
        refine ev_if_pos (by omega) (ev_if_pos (by omega) (ev_if_pos (by omega) ?_))
        by_cases a1 : o.f1.toList = x.f1.toList
        · refine ev_if_pos a1 ?_
          cases a2 : (o.f3.f0 == x.f3.f0 && (o.f3.f1 == x.f3.f1 && o.f3.f2 == x.f3.f2)) with
          | true =>
            refine ev_if_pos rfl ?_
            have : o.f2.toList = x.f2.toList := by
              simp only [alikeB, a1, decide_true, a2, Bool.true_and, Bool.not_not, decide_eq_true_eq] at hp
              exact hp
            exact ev_if_pos this H
          | false => exact ev_if_neg (by simp) H
        · exact ev_if_neg a1 H
      · intro j o ho hj hp
        simp only [alikeB, Bool.not_eq_false', Bool.and_eq_true, decide_eq_true_eq, Bool.not_eq_true', decide_eq_false_iff_not] at hp
        refine ev_last (fun k => ?_)
        simp only [spec_GoodLog.l1, rdN ho]
        rw [if_pos (by omega), if_pos (by omega), if_pos (by omega), if_pos hp.1, if_pos (by simpa using hp.2.1), if_neg hp.2.2]
    refine ev_shift ?_
    simp only [spec_GoodLog.l0, rdN hx]
    refine ev_if_pos (by omega) (ev_if_pos (by omega) (ev_if_pos (by omega) (ev_bind (l6Entry_ev x s1 s2) ?_)))
    rw [hno, Bool.and_assoc, Bool.and_assoc]
    refine ev_gate Iff.rfl fun _ => ev_if_pos (by omega) ?_
    simp only [Option.bind_some, Int.toNat_natCast]
    exact inner
theorem isLog1_ev (x : En) (h1 : x.f1.size ≤ 140737488351232) (h2 : x.f2.size ≤ 140737488351232) : Ev (fun k => impl_isLog_1.f k x.f0 x.f1 x.f2 x.f3.f0 x.f3.f1 x.f3.f2) (!entryB x) := by
  unfold impl_isLog_1.f
  exact ev_bind (isEntry_ev x h1 h2) (ev_some _)
theorem containsBad_ev (l : List En) (hl : l.length ≤ 1048576) (hk : sizesN l) : Ev (fun k => slices_ContainsFunc_impl_Entry_impl_Entry_h57.f k l) (l.any (fun x => !entryB x)) := by
  obtain ⟨r, h1, h2⟩ := idx_loop (fun k i => slices_IndexFunc_impl_Entry_impl_Entry_h57.l0 k l (l.length : Int) i) l (fun x => !entryB x)
    (fun k => by simp only [slices_IndexFunc_impl_Entry_impl_Entry_h57.l0]; rw [if_neg (by omega)])
    (fun n x hx hn hp => ev_shift (by
      obtain ⟨s1, s2⟩ := hk x (List.mem_of_getElem? hx)
      simp only [slices_IndexFunc_impl_Entry_impl_Entry_h57.l0, rdN hx]
      exact ev_if_pos (by omega) (ev_if_pos (by omega) (ev_if_pos (by omega) (ev_bind (isLog1_ev x s1 s2) (ev_if_pos hp (ev_some _)))))))
    (fun n x r hx hn hp H => ev_shift (by
      obtain ⟨s1, s2⟩ := hk x (List.mem_of_getElem? hx)
      simp only [slices_IndexFunc_impl_Entry_impl_Entry_h57.l0, rdN hx, wrap_nat (show n < 9223372036854775807 by omega)]
      exact ev_if_pos (by omega) (ev_if_pos (by omega) (ev_if_pos (by omega) (ev_bind (isLog1_ev x s1 s2) (ev_if_neg (by rw [hp]; simp) H))))))
  unfold slices_ContainsFunc_impl_Entry_impl_Entry_h57.f slices_IndexFunc_impl_Entry_impl_Entry_h57.f
  refine ev_bind h1 ?_
  simp only [h2]
  exact ev_some _
theorem areAlike_ev (l : List En) (hl : l.length ≤ 1048576) : Ev (fun k => impl_areAlike.f k l) (alikeFrom [] l) := by
  have key := drop_ind0 l (fun n rest => Ev (fun k => impl_areAlike.l0 k l l (l.length : Int) (n : Int)) (alikeFrom (l.take n) rest)) ?_ ?_
  · have h0 : Ev (fun k => impl_areAlike.l0 k l l (l.length : Int) 0) (alikeFrom [] l) := by simpa using key
    exact Ev.congr (fun k => rfl) h0
  · refine ev_last (fun k => ?_)
    simp only [impl_areAlike.l0]
    rw [if_neg (by omega)]
    rfl
  · intro n x rest hn hx _ ih
    rw [take_snoc hx] at ih
    have hlen : (l.take n).length = n := by simp; omega
    have hno : alikeFrom (l.take n) (x :: rest) = ((l.take n).all (alikeB x) && alikeFrom (l.take n ++ [x]) rest) := rfl
    refine ev_shift ?_
    simp only [impl_areAlike.l0, rdN hx]
    refine ev_if_pos (by omega) (ev_if_pos (by omega) (ev_if_pos (by omega) (ev_if_pos (by omega) ?_)))
    simp only [Option.bind_some, Int.toNat_natCast]
    rw [hno]
    refine all_loop (fun k i => impl_areAlike.l1 k l l (l.length : Int) (n : Int) (l.take n) ((l.take n).length : Int) i x.f0 x.f1 x.f2 x.f3.f0 x.f3.f1 x.f3.f2) (l.take n) (alikeB x) _ ?_ ?_ ?_
    · refine ev_shift ?_
      simp only [impl_areAlike.l1]
      refine ev_if_neg (by omega) ?_
      rw [wrap_nat (by omega)]
      exact ih
    · intro j o r ho hj hp H
      refine ev_shift ?_
      simp only [impl_areAlike.l1, rdN ho, wrap_nat (show j < 9223372036854775807 by omega)]
      refine ev_if_pos (by omega) (ev_if_pos (by omega) (ev_if_pos (by omega) ?_))
      by_cases a1 : x.f1.toList = o.f1.toList
      · refine ev_if_pos a1 ?_
        by_cases a2 : (x.f3.f0 == o.f3.f0 && (x.f3.f1 == o.f3.f1 && x.f3.f2 == o.f3.f2)) = true
        · refine ev_if_pos a2 ?_
          have : x.f2.toList = o.f2.toList := by
            simp only [Bool.and_eq_true, beq_iff_eq] at a2
            have a2' : (o.f3.f0 == x.f3.f0 && (o.f3.f1 == x.f3.f1 && o.f3.f2 == x.f3.f2)) = true := by simp [a2.1, a2.2.1, a2.2.2]
            simp only [alikeB, a1.symm, decide_true, a2', Bool.true_and, Bool.not_not, decide_eq_true_eq] at hp
            exact hp.symm
          exact ev_if_pos this H
        · exact ev_if_neg a2 H
      · exact ev_if_neg a1 H
    · intro j o ho hj hp
      simp only [alikeB, Bool.not_eq_false', Bool.and_eq_true, decide_eq_true_eq, Bool.not_eq_true', decide_eq_false_iff_not, beq_iff_eq] at hp
      obtain ⟨p1, ⟨p2, p3, p4⟩, p5⟩ := hp
      refine ev_last (fun k => ?_)
      simp only [impl_areAlike.l1, rdN ho]
      rw [if_pos (by omega), if_pos (by omega), if_pos (by omega), if_pos p1.symm, if_pos (by simp [p2, p3, p4]), if_neg (fun e => p5 e.symm)]
theorem any_not_all (l : List En) : l.any (fun x => !entryB x) = !(l.all entryB) := by
  induction l with
  | nil => rfl
  | cons x l ih => simp only [List.any_cons, List.all_cons, ih]; cases entryB x <;> simp
theorem isLog_ev (l : List En) (hl : l.length ≤ 1048576) (hk : sizesN l) : Ev (fun k => impl_isLog.f k l) (logB l) := by
  unfold impl_isLog.f logB
  rw [logFrom_two, Bool.and_comm, ← dec_eighty]
  refine ev_gate decide_eq_true_iff.symm fun _ => ev_bind (containsBad_ev l hl hk) ?_
  rw [any_not_all]
  cases l.all entryB with
  | false => simpa using ev_some false
  | true =>
    simp only [Bool.not_true, Bool.false_eq_true, if_false, Bool.true_and]
    exact ev_bind (areAlike_ev l hl) (ev_some _)

/-! ### the text of a mark -/
theorem strOfNums_size (l : List Int) : (strOfNums l).size = l.length := by
  show ((l.map fun n => UInt8.ofNat n.toNat).toArray).size = l.length
  simp
theorem markText_some (c : Int) (h0 : 0 ≤ c) (h1 : c ≤ 4611686018427387904) : ∃ t, Ev (fun k => laws_markText.f k c) t := by
  unfold laws_markText.f
  by_cases hc : c ≤ 0
  · exact ⟨_, ev_if_pos hc (ev_some _)⟩
  · have key : ∀ d : Nat, ∀ c : Int, 0 ≤ c → c.toNat = d → ∀ t : ByteArray, (t.size : Int) + c ≤ 4611686018427387905 → ∃ r, Ev (fun k => laws_markText.l0 k c t) r := by
      intro d
      induction d using Nat.strongRecOn with
      | ind d ih =>
        intro c h0 hd t hs
        by_cases hp : c > 0
        · have hdiv : Int.tdiv c 10 = c / 10 := Int.tdiv_eq_ediv_of_nonneg h0
          have hw : wrap64 (Int.tdiv c 10) = c / 10 := by rw [hdiv]; exact wrap_of (by omega) (by omega)
          obtain ⟨r, hr⟩ := ih (c / 10).toNat (by omega) (c / 10) (by omega) rfl ((strOfNums [(wrap64 (48 + (Int.tmod c 10))) % 256]) ++ t) (by
            rw [ByteArray.size_append, strOfNums_size]
            simp only [List.length_singleton]
            omega)
          refine ⟨r, ev_shift ?_⟩
          simp only [laws_markText.l0, Option.bind_some, hw]
          refine ev_if_pos hp (ev_if_pos ?_ hr)
          rw [strOfNums_size]
          simp only [List.length_singleton]
          omega
        · refine ⟨(⟨#[109]⟩ : ByteArray) ++ t, ev_last fun k => ?_⟩
          simp only [laws_markText.l0]
          rw [if_neg hp, if_pos (by omega)]
    obtain ⟨r, hr⟩ := key c.toNat c h0 rfl ⟨#[]⟩ (by
      have : (⟨#[]⟩ : ByteArray).size = 0 := rfl
      omega)
    exact ⟨r, ev_if_neg hc hr⟩
open Classical in
noncomputable def mtext (c : Int) : ByteArray := if h : ∃ t, Ev (fun k => laws_markText.f k c) t then h.choose else ⟨#[]⟩
theorem mtext_ev (c : Int) (h0 : 0 ≤ c) (h1 : c ≤ 4611686018427387904) : Ev (fun k => laws_markText.f k c) (mtext c) := by
  have h := markText_some c h0 h1
  unfold mtext
  rw [dif_pos h]
  exact h.choose_spec

noncomputable def emN (c : Int) : En := ⟨c, mtext (c + 1), mtext (c + 2), ⟨c + 3, c + 4, (Int.tmod (c + 5) 3) == 0⟩⟩
theorem markEntryS_ev (l : List En) (m : Int) (h0 : 0 ≤ m) (hb : m + 6 * l.length ≤ 4611686018427387800) : Ev (fun k => laws_markEntryS.f k l m) (m + 6 * (l.length : Int), mkList emN m 6 l.length) := by
  have key := mark_loop (fun k xs c i => laws_markEntryS.l0 k xs c i) emN m 6 l.length (fun k xs c hx => by simp only [laws_markEntryS.l0]; rw [if_neg (by omega)]) (fun n xs r hn hx H => by
    generalize hc : m + 6 * (n : Int) = c at H ⊢
    have w1 : wrap64 (c + 1) = c + 1 := wrap_of (by omega) (by omega)
    have w2 : wrap64 (c + 1 + 1) = c + 2 := by rw [wrap_of (by omega) (by omega)]; omega
    have w3 : wrap64 (c + 2 + 1) = c + 3 := by rw [wrap_of (by omega) (by omega)]; omega
    have w4 : wrap64 (c + 3 + 1) = c + 4 := by rw [wrap_of (by omega) (by omega)]; omega
    have w5 : wrap64 (c + 4 + 1) = c + 5 := by rw [wrap_of (by omega) (by omega)]; omega
    have w6 : wrap64 (c + 5 + 1) = m + 6 * ((n + 1 : Nat) : Int) := by rw [wrap_of (by omega) (by omega)]; omega
    have e1 : ∀ (ys : List En) (a : En), n < ys.length → rd_T53 (ys.set n a) (n : Int) = a := fun ys a h => rdN (by rw [List.getElem?_set_self h])
    have t1 := mtext_ev (c + 1) (by omega) (by omega)
    have t2 := mtext_ev (c + 2) (by omega) (by omega)
    refine ev_shift ?_
    simp only [laws_markEntryS.l0, w1, w2, w3, w4, w5, w6, wrap_nat (show n < 9223372036854775807 by omega), Option.bind_some, Int.toNat_natCast]
    refine ev_if_pos (by omega) (ev_if_pos (by omega) (ev_bind t1 (ev_bind t2 ?_)))
    have hn2 : n < xs.length := by omega
    simp only [e1, List.length_set, hn2, List.set_set]
    exact H) l rfl
  exact Ev.congr (fun k => rfl) key
theorem heldEntryS_ev (m : Int) (N : Nat) (h0 : 0 ≤ m) (hb : m + 6 * N ≤ 4611686018427387800) : Ev (fun k => laws_heldEntryS.f k (mkList emN m 6 N) m) (m + 6 * (N : Int)) := by
  have key := held_loop (fun k c i => laws_heldEntryS.l0 k (mkList emN m 6 N) c i) emN m 6 N (fun k c => by simp only [laws_heldEntryS.l0, mkList_len]; rw [if_neg (by omega)]) (fun n r hn hx H => by
    generalize hc : m + 6 * (n : Int) = c at H hx ⊢
    have w1 : wrap64 (c + 1) = c + 1 := wrap_of (by omega) (by omega)
    have w2 : wrap64 (c + 1 + 1) = c + 2 := by rw [wrap_of (by omega) (by omega)]; omega
    have w3 : wrap64 (c + 2 + 1) = c + 3 := by rw [wrap_of (by omega) (by omega)]; omega
    have w4 : wrap64 (c + 3 + 1) = c + 4 := by rw [wrap_of (by omega) (by omega)]; omega
    have w5 : wrap64 (c + 4 + 1) = c + 5 := by rw [wrap_of (by omega) (by omega)]; omega
    have w6 : wrap64 (c + 5 + 1) = m + 6 * ((n + 1 : Nat) : Int) := by rw [wrap_of (by omega) (by omega)]; omega
    have t1 := mtext_ev (c + 1) (by omega) (by omega)
    have t2 := mtext_ev (c + 2) (by omega) (by omega)
    refine ev_shift ?_
    simp only [laws_heldEntryS.l0, mkList_len, rdN hx, emN, w1, w2, w3, w4, w5, w6, wrap_nat (show n < 9223372036854775807 by omega)]
    exact ev_if_pos (by omega) (ev_if_pos (by omega) (ev_if_pos (by first | rfl | trivial) (ev_bind t1 (ev_if_pos (by first | rfl | trivial) (ev_bind t2 (ev_if_pos (by first | rfl | trivial) (ev_if_pos (by first | rfl | trivial) (ev_if_pos (by first | rfl | trivial) (ev_if_neg (by simp) H))))))))))
  exact Ev.congr (fun k => rfl) key

theorem szEntryS_ev2 (l : List S50) (hl : l.length ≤ 140737488355328) (hk : ∀ y ∈ l, y.f1.size ≤ 140737488351232 ∧ y.f2.size ≤ 140737488351232) (a : Int) (h0 : 0 ≤ a) (h1 : a ≤ 1048576) : ∃ v, Ev (fun k => laws_szEntryS.f k l a) v ∧ v ≤ 1048576 ∧ (a < l.length → v < 0) := by
  have w : wrap64 (a - (l.length : Int)) = a - l.length := wrap_of (by omega) (by omega)
  by_cases hc : a - (l.length : Int) < 0
  · refine ⟨-1, Ev.congr (fun k => ?_) (ev_some _), by omega, fun _ => by omega⟩
    unfold laws_szEntryS.f
    rw [w, if_pos hc]
  · obtain ⟨v, hv, hv1⟩ := sz_loop2 (fun k a i => laws_szEntryS.l0 k l a i) (fun x a => laws_szEntry.f x.f0 x.f1 x.f2 x.f3.f0 x.f3.f1 x.f3.f2 a) l (fun x hx a h0 h1 => by
      obtain ⟨s1, s2⟩ := hk x hx
      have w1 : wrap64 (a - (x.f1.size : Int)) = a - x.f1.size := wrap_of (by omega) (by omega)
      have w2 : wrap64 (a - (x.f1.size : Int) - (x.f2.size : Int)) = a - x.f1.size - x.f2.size := wrap_of (by omega) (by omega)
      show ∃ v, laws_szEntry.f x.f0 x.f1 x.f2 x.f3.f0 x.f3.f1 x.f3.f2 a = some v ∧ v ≤ 1048576
      unfold laws_szEntry.f
      rw [w1]
      split
      · exact ⟨_, rfl, by omega⟩
      · rw [w2]
        split
        · exact ⟨_, rfl, by omega⟩
        · exact ⟨_, rfl, by omega⟩) (fun k a => by simp [laws_szEntryS.l0]) (fun k n x a v hx hn hv => by
      simp only [laws_szEntryS.l0]
      rw [if_pos (by omega), if_pos (by omega), rdM hx, hv, wrap_nat (by omega)]
      rfl) (a - l.length) (by omega) (by omega)
    refine ⟨v, Ev.congr (fun k => ?_) hv, hv1, fun h => by omega⟩
    unfold laws_szEntryS.f
    rw [w, if_neg hc]
/-! ### two logs into one -/
def keyTid (x o : En) : Bool := decide (o.f1.toList = x.f1.toList) && (o.f3.f0 == x.f3.f0 && (o.f3.f1 == x.f3.f1 && o.f3.f2 == x.f3.f2))
def valSame (x o : En) : Bool := decide (o.f2.toList = x.f2.toList)
theorem alike_two (x o : En) : alikeB x o = !(keyTid x o && !valSame x o) := by
  unfold alikeB keyTid valSame
  cases decide (o.f1.toList = x.f1.toList) <;> simp
def mergeTo (a : List En) : List En → List En → List En
  | [], out => out
  | x :: r, out => if a.any (keyTid x) = true then mergeTo a r out else mergeTo a r (out ++ [x])
theorem mergeTo_len (a : List En) : ∀ (b out : List En), (mergeTo a b out).length ≤ out.length + b.length
  | [], out => by simp [mergeTo]
  | x :: r, out => by
    unfold mergeTo
    split
    · have := mergeTo_len a r out
      simp at this ⊢
      omega
    · have := mergeTo_len a r (out ++ [x])
      simp at this ⊢
      omega
theorem mergeTo_mem (a : List En) : ∀ (b out : List En) y, y ∈ mergeTo a b out → y ∈ out ∨ y ∈ b
  | [], out, y, h => .inl h
  | x :: r, out, y, h => by
    unfold mergeTo at h
    split at h
    · rcases mergeTo_mem a r out y h with h | h
      · exact .inl h
      · exact .inr (List.mem_cons_of_mem _ h)
    · rcases mergeTo_mem a r (out ++ [x]) y h with h | h
      · rcases List.mem_append.1 h with h | h
        · exact .inl h
        · simp at h; subst h; exact .inr List.mem_cons_self
      · exact .inr (List.mem_cons_of_mem _ h)
/-- Do the two logs tell one thing each? -/
def crossB (a b : List En) : Bool := b.all (fun x => a.all (alikeB x))
def mergeEnd (a b : List En) : List En × Bool := if logB (mergeTo a b a) = true then (mergeTo a b a, true) else ([], false)
def mergeB (a b : List En) : List En × Bool := if (logB a = true ∧ logB b = true) ∧ crossB a b = true then mergeEnd a b else ([], false)
theorem alikeFrom_app : ∀ (r p q : List En), alikeFrom p (r ++ q) = (alikeFrom p r && alikeFrom (p ++ r) q)
  | [], p, q => by simp [alikeFrom]
  | x :: r, p, q => by
    simp only [List.cons_append, alikeFrom, alikeFrom_app r]
    rw [Bool.and_assoc]
    simp
theorem alikeFrom_cross : ∀ (r p q : List En), alikeFrom (p ++ q) r = (crossB p r && alikeFrom q r)
  | [], p, q => by simp [alikeFrom, crossB]
  | x :: r, p, q => by
    have ih := alikeFrom_cross r p (q ++ [x])
    simp only [alikeFrom, List.append_assoc, ih, List.all_append, crossB, List.all_cons]
    cases p.all (alikeB x) <;> cases q.all (alikeB x) <;> simp
theorem logB_alike {l : List En} (h : logB l = true) : alikeFrom [] l = true ∧ l.length ≤ 80 := by
  simp only [logB, Bool.and_eq_true, decide_eq_true_eq, logFrom_two] at h
  exact ⟨h.1.2, h.2⟩
theorem alike_whole {a b : List En} (ha : logB a = true) (hb : logB b = true) : alikeFrom [] (a ++ b) = crossB a b := by
  rw [alikeFrom_app, (logB_alike ha).1, Bool.true_and]
  have := alikeFrom_cross b a []
  simp only [List.append_nil] at this
  rw [List.nil_append, this, (logB_alike hb).1, Bool.and_true]
def finish (o : List En) : List En × Bool := if logB o = true then (o, true) else ([], false)
theorem specMerge_ev (a b : List En) (ha : a.length ≤ 80) (hb : b.length ≤ 80) (sa : sizesN a) (sb : sizesN b) : Ev (fun k => spec_MergeLogs.l0 k a a b (b.length : Int) 0) (if crossB a b = true then finish (mergeTo a b a) else ([], false)) := by
  have key := drop_ind0 b (fun n rest => ∀ out : List En, sizesN out → out.length ≤ a.length + n → Ev (fun k => spec_MergeLogs.l0 k a out b (b.length : Int) (n : Int)) (if crossB a rest = true then finish (mergeTo a rest out) else ([], false))) ?_ ?_
  · exact key a sa (by omega)
  · intro out so ho
    refine ev_shift ?_
    simp only [spec_MergeLogs.l0]
    refine ev_if_neg (by omega) (ev_bind (specLog_ev out (by omega) so) ?_)
    have : crossB a [] = true := rfl
    rw [if_pos this]
    show Ev _ (finish (mergeTo a [] out))
    unfold finish mergeTo
    by_cases h : logB out = true
    · simp only [h, if_true]; exact ev_some _
    · simp only [h]; exact ev_some _
  · intro n x rest hn hx _ ih out so ho
    have sx : sizesN [x] := by
      intro y hy
      rw [List.mem_singleton] at hy
      rw [hy]
      exact sb x (List.mem_of_getElem? hx)
    have nt := ih out so (by omega)
    have nf := ih (out ++ [x]) (fun y hy => (List.mem_append.1 hy).elim (so y) (sx y)) (by simp; omega)
    have inner := drop_ind0 a (fun j rs => ∀ h : Bool, Ev (fun k => spec_MergeLogs.l1 k a out h b (b.length : Int) (n : Int) a (a.length : Int) (j : Int) x.f0 x.f1 x.f2 x.f3.f0 x.f3.f1 x.f3.f2)
      (if rs.all (alikeB x) = true then (if (h || rs.any (keyTid x)) = true then (if crossB a rest = true then finish (mergeTo a rest out) else ([], false)) else (if crossB a rest = true then finish (mergeTo a rest (out ++ [x])) else ([], false))) else ([], false))) ?_ ?_
    · have h0 := inner false
      refine ev_shift ?_
      simp only [spec_MergeLogs.l0, rdN hx]
      refine ev_if_pos (by omega) (ev_if_pos (by omega) (ev_if_pos (by omega) ?_))
      have e1 : crossB a (x :: rest) = (a.all (alikeB x) && crossB a rest) := rfl
      have e2 : mergeTo a (x :: rest) out = if a.any (keyTid x) = true then mergeTo a rest out else mergeTo a rest (out ++ [x]) := rfl
      rw [e1, e2]
      simp only [Bool.false_or] at h0
      cases c1 : a.all (alikeB x) with
      | false => rw [c1] at h0; simpa using h0
      | true =>
        rw [c1] at h0
        cases c2 : a.any (keyTid x) with
        | false => rw [c2] at h0; simpa using h0
        | true => rw [c2] at h0; simpa using h0
    · intro h
      refine ev_shift ?_
      simp only [spec_MergeLogs.l1]
      refine ev_if_neg (by omega) ?_
      rw [wrap_nat (by omega)]
      simp only [List.all_nil, List.any_nil, Bool.or_false, if_true]
      cases h with
      | true => simpa using nt
      | false => simpa using ev_if_pos (c := out.length < 2199023255552) (by omega) nf
    · intro j o rs hj ho2 _ ih2 h
      have three : ∀ q : Bool, q = keyTid x o → Ev (fun k => spec_MergeLogs.j3 k a out h b (b.length : Int) (n : Int) a (a.length : Int) (j : Int) q x.f0 x.f1 x.f2 x.f3.f0 x.f3.f1 x.f3.f2 o.f0 o.f1 o.f2 o.f3.f0 o.f3.f1 o.f3.f2)
          (if (o :: rs).all (alikeB x) = true then (if (h || (o :: rs).any (keyTid x)) = true then (if crossB a rest = true then finish (mergeTo a rest out) else ([], false)) else (if crossB a rest = true then finish (mergeTo a rest (out ++ [x])) else ([], false))) else ([], false)) := by
        intro q hq
        refine ev_shift ?_
        simp only [spec_MergeLogs.j3, wrap_nat (show j < 9223372036854775807 by omega), List.all_cons, List.any_cons, alike_two, ← hq]
        cases q with
        | true =>
          refine ev_if_pos rfl ?_
          by_cases hv : o.f2.toList = x.f2.toList
          · have e : valSame x o = true := decide_eq_true hv
            simp only [e, Bool.not_true, Bool.and_false, Bool.not_false, Bool.true_and, Bool.true_or, Bool.or_true]
            have H := ih2 true
            simp only [Bool.true_or] at H
            exact ev_if_pos hv H
          · have e : valSame x o = false := decide_eq_false hv
            simp only [e, Bool.not_false, Bool.and_true, Bool.not_true, Bool.false_and, Bool.false_eq_true, if_false]
            exact ev_if_neg hv (ev_some _)
        | false =>
          simp only [Bool.false_and, Bool.not_false, Bool.true_and, Bool.false_or]
          exact ev_if_neg (by simp) (ih2 h)
      refine ev_shift ?_
      simp only [spec_MergeLogs.l1, rdN ho2]
      refine ev_if_pos (by omega) (ev_if_pos (by omega) (ev_if_pos (by omega) ?_))
      by_cases hk : o.f1.toList = x.f1.toList
      · exact ev_if_pos hk (three _ (by simp [keyTid, hk]))
      · exact ev_if_neg hk (three _ (by simp [keyTid, hk]))
theorem contains39_ev (a : List En) (x : En) (ha : a.length ≤ 1048576) : Ev (fun k => slices_ContainsFunc_impl_Entry_impl_Entry_h39.f k a x.f0 x.f1 x.f2 x.f3.f0 x.f3.f1 x.f3.f2) (a.any (keyTid x)) := by
  have hm : ∀ o : En, impl_MergeLogs_1.f o.f0 o.f1 o.f2 o.f3.f0 o.f3.f1 o.f3.f2 x.f0 x.f1 x.f2 x.f3.f0 x.f3.f1 x.f3.f2 = some (keyTid x o) := by
    intro o
    unfold impl_MergeLogs_1.f keyTid
    by_cases h : o.f1.toList = x.f1.toList
    · rw [if_pos h]; simp [h]
    · rw [if_neg h]; simp [h]
  obtain ⟨r, h1, h2⟩ := idx_loop (fun k i => slices_IndexFunc_impl_Entry_impl_Entry_h39.l0 k a (a.length : Int) i x.f0 x.f1 x.f2 x.f3.f0 x.f3.f1 x.f3.f2) a (keyTid x)
    (fun k => by simp only [slices_IndexFunc_impl_Entry_impl_Entry_h39.l0]; rw [if_neg (by omega)])
    (fun n o ho hn hp => ev_shift (by
      simp only [slices_IndexFunc_impl_Entry_impl_Entry_h39.l0, rdN ho, hm, Option.bind_some]
      exact ev_if_pos (by omega) (ev_if_pos (by omega) (ev_if_pos (by omega) (ev_if_pos hp (ev_some _))))))
    (fun n o r ho hn hp H => ev_shift (by
      simp only [slices_IndexFunc_impl_Entry_impl_Entry_h39.l0, rdN ho, hm, Option.bind_some, wrap_nat (show n < 9223372036854775807 by omega)]
      exact ev_if_pos (by omega) (ev_if_pos (by omega) (ev_if_pos (by omega) (ev_if_neg (by rw [hp]; simp) H)))))
  unfold slices_ContainsFunc_impl_Entry_impl_Entry_h39.f slices_IndexFunc_impl_Entry_impl_Entry_h39.f
  refine ev_bind h1 ?_
  simp only [h2]
  exact ev_some _
theorem implMerge_ev (a b : List En) (ha : a.length ≤ 80) (hb : b.length ≤ 80) (sa : sizesN a) (sb : sizesN b) : Ev (fun k => impl_MergeLogs.l0 k a a b (b.length : Int) 0) (finish (mergeTo a b a)) := by
  have key := drop_ind0 b (fun n rest => ∀ out : List En, sizesN out → out.length ≤ a.length + n → Ev (fun k => impl_MergeLogs.l0 k a out b (b.length : Int) (n : Int)) (finish (mergeTo a rest out))) ?_ ?_
  · exact key a sa (by omega)
  · intro out so ho
    refine ev_shift ?_
    simp only [impl_MergeLogs.l0]
    refine ev_if_neg (by omega) (ev_bind (isLog_ev out (by omega) so) ?_)
    show Ev _ (finish (mergeTo a [] out))
    unfold finish mergeTo
    by_cases h : logB out = true
    · simp only [h, if_true]; exact ev_some _
    · simp only [h]; exact ev_some _
  · intro n x rest hn hx _ ih out so ho
    have sx : sizesN [x] := by
      intro y hy
      rw [List.mem_singleton] at hy
      rw [hy]
      exact sb x (List.mem_of_getElem? hx)
    have e2 : mergeTo a (x :: rest) out = if a.any (keyTid x) = true then mergeTo a rest out else mergeTo a rest (out ++ [x]) := rfl
    refine ev_shift ?_
    simp only [impl_MergeLogs.l0, rdN hx, wrap_nat (show n < 9223372036854775807 by omega)]
    refine ev_if_pos (by omega) (ev_if_pos (by omega) (ev_if_pos (by omega) (ev_bind (contains39_ev a x (by omega)) ?_)))
    rw [e2]
    by_cases c : a.any (keyTid x) = true
    · rw [if_pos c]
      exact ev_if_pos c (ih out so (by omega))
    · rw [if_neg c]
      exact ev_if_neg c (ev_if_pos (by omega) (ih (out ++ [x]) (fun y hy => (List.mem_append.1 hy).elim (so y) (sx y)) (by simp; omega)))
def mergedB (a b : List En) : List En × Bool := if logB a = true ∧ logB b = true then (if crossB a b = true then finish (mergeTo a b a) else ([], false)) else ([], false)
theorem mergedB_len (a b : List En) : (mergedB a b).1.length ≤ a.length + b.length := by
  unfold mergedB finish
  have := mergeTo_len a b a
  split
  · split
    · split
      · exact this
      · simp
    · simp
  · simp
theorem specMergeB_ev (a b : List En) (ha : a.length ≤ 1048576) (hb : b.length ≤ 1048576) (sa : sizesN a) (sb : sizesN b) : Ev (fun k => spec_MergeLogs.f k a b) (mergedB a b) := by
  unfold spec_MergeLogs.f mergedB
  have bad : Ev (fun k => spec_MergeLogs.j0 k a b true) ([], false) := ev_last (fun k => by simp only [spec_MergeLogs.j0, if_true])
  refine ev_bind (specLog_ev a ha sa) ?_
  by_cases h1 : logB a = true
  · refine ev_if_pos h1 (ev_bind (specLog_ev b hb sb) ?_)
    by_cases h2 : logB b = true
    · have la := (logB_alike h1).2
      have lb := (logB_alike h2).2
      rw [if_pos ⟨h1, h2⟩, h2]
      refine ev_shift ?_
      simp only [spec_MergeLogs.j0, Bool.not_true, Bool.false_eq_true, if_false, Option.bind_some, List.nil_append]
      exact ev_if_pos (by simp; omega) (specMerge_ev a b la lb sa sb)
    · rw [if_neg (fun x => h2 x.2)]
      simpa [h2] using bad
  · rw [if_neg (fun x => h1 x.1)]
    exact ev_if_neg h1 bad
theorem implMergeB_ev (a b : List En) (ha : a.length ≤ 1048576) (hb : b.length ≤ 1048576) (sa : sizesN a) (sb : sizesN b) : Ev (fun k => impl_MergeLogs.f k a b) (mergedB a b) := by
  unfold impl_MergeLogs.f mergedB
  have bad : Ev (fun k => impl_MergeLogs.j0 k a b true) ([], false) := ev_last (fun k => by simp only [impl_MergeLogs.j0, if_true])
  refine ev_bind (isLog_ev a ha sa) ?_
  by_cases h1 : logB a = true
  · refine ev_if_pos h1 (ev_bind (isLog_ev b hb sb) ?_)
    by_cases h2 : logB b = true
    · have la := (logB_alike h1).2
      have lb := (logB_alike h2).2
      rw [if_pos ⟨h1, h2⟩]
      refine ev_if_pos h2 ?_
      simp only [Option.bind_some, List.nil_append]
      refine ev_if_pos (by simp; omega) (ev_if_pos (by omega) (ev_bind (areAlike_ev (a ++ b) (by simp; omega)) ?_))
      rw [alike_whole h1 h2]
      cases c : crossB a b with
      | false => simpa using bad
      | true =>
        refine ev_shift ?_
        simp only [impl_MergeLogs.j0, Bool.not_true, Bool.false_eq_true, if_false, Option.bind_some, List.nil_append, if_true]
        exact ev_if_pos (by simp; omega) (implMerge_ev a b la lb sa sb)
    · rw [if_neg (fun x => h2 x.2)]
      exact ev_if_neg h2 bad
  · rw [if_neg (fun x => h1 x.1)]
    exact ev_if_neg h1 bad

theorem FnExactMergeLogs : laws_FnExactMergeLogs.Pure := by
  intro a b hab hak hbb hbk
  have la : a.length ≤ 140737488355328 := by omega
  have lb : b.length ≤ 140737488355328 := by omega
  have sa : ∀ y ∈ a, y.f1.size ≤ 140737488351232 ∧ y.f2.size ≤ 140737488351232 := fun y hy => ⟨(hak y hy).2.1, (hak y hy).2.2.1⟩
  have sb : ∀ y ∈ b, y.f1.size ≤ 140737488351232 ∧ y.f2.size ≤ 140737488351232 := fun y hy => ⟨(hbk y hy).2.1, (hbk y hy).2.2.1⟩
  apply Ev.rounds
  unfold laws_FnExactMergeLogs.f
  obtain ⟨v, hv, hv1, hv2⟩ := szEntryS_ev2 a la sa 1048576 (by omega) (by omega)
  refine ev_bind hv ?_
  by_cases hneg : v < 0
  · exact ev_if_pos hneg (ev_some _)
  · refine ev_if_neg hneg ?_
    obtain ⟨u, hu, hu1, hu2⟩ := szEntryS_ev2 b lb sb v (by omega) hv1
    refine ev_bind hu ?_
    by_cases hneg2 : u < 0
    · exact ev_if_pos hneg2 (ev_some _)
    · refine ev_if_neg hneg2 ?_
      have ha0 : a.length ≤ 1048576 := by
        by_cases h : 1048576 < a.length
        · exact absurd (hv2 (by omega)) hneg
        · omega
      have hb0 : b.length ≤ 1048576 := by
        by_cases h : 1048576 < b.length
        · exact absurd (hu2 (by omega)) hneg2
        · omega
      have ta := toEntryS_ev a ha0
      have tb := toEntryS_ev b hb0
      have hla : (a.map cvN).length ≤ 1048576 := by simpa using ha0
      have hlb : (b.map cvN).length ≤ 1048576 := by simpa using hb0
      have sa2 : sizesN (a.map cvN) := by
        intro y hy
        obtain ⟨x, hx, rfl⟩ := List.mem_map.1 hy
        exact sa x hx
      have sb2 : sizesN (b.map cvN) := by
        intro y hy
        obtain ⟨x, hx, rfl⟩ := List.mem_map.1 hy
        exact sb x hx
      generalize a.map cvN = m at ta hla sa2
      generalize b.map cvN = n at tb hlb sb2
      have sp := specMergeB_ev m n hla hlb sa2 sb2
      have im := implMergeB_ev m n hla hlb sa2 sb2
      have len := mergedB_len m n
      generalize mergedB m n = R at sp im len
      have eq := eqEntryS_ev R.1 (by omega)
      have mk := markEntryS_ev R.1 1 (by omega) (by omega)
      have hd := heldEntryS_ev 1 R.1.length (by omega) (by omega)
      refine ev_bind ta (ev_bind tb (ev_bind sp (ev_bind ta (ev_bind tb (ev_bind im (ev_bind eq ?_))))))
      simp only [if_true, bne_self_eq_false]
      refine ev_shift ?_
      simp only [laws_FnExactMergeLogs.j0, Bool.false_eq_true, if_false]
      refine ev_bind ta (ev_bind (eqEntryS_ev m (by omega)) ?_)
      simp only [if_true]
      refine ev_bind tb (ev_bind (eqEntryS_ev n (by omega)) ?_)
      simp only [if_true]
      refine ev_bind (markEntryS_ev m 1 (by omega) (by omega)) (ev_bind (markEntryS_ev n (1 + 6 * (m.length : Int)) (by omega) (by omega)) (ev_if_neg (by simp only; omega) (ev_bind eq ?_)))
      simp only [if_true, bne_self_eq_false]
      refine ev_shift ?_
      simp only [laws_FnExactMergeLogs.j1, Bool.false_eq_true, if_false]
      refine ev_bind mk (ev_bind hd (ev_if_neg (by omega) (ev_if_pos rfl ?_)))
      refine ev_bind ta (ev_bind tb (ev_bind im (ev_bind eq ?_)))
      simp only [if_true, bne_self_eq_false]
      refine ev_shift ?_
      simp only [laws_FnExactMergeLogs.j2, Bool.false_eq_true, if_false]
      exact ev_bind hd (ev_if_neg (by omega) (ev_if_pos rfl (ev_some _)))

end Go.Proofs.YtaenobdphjindaaDoor.Pure
