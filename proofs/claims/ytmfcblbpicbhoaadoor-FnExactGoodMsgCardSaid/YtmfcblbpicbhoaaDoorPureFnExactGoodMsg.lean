/- The pure statement of the law FnExactGoodMsg: at every message the printed law answers true. -/
import Derived.Test.YtmfcblbpicbhoaaDoorSayFnExactGoodMsg
import Derived.Test.YtmfcblbpicbhoaaDoorAid
import Derived.Test.YtmfcblbpicbhoaaDoorTrim
namespace Go.Proofs.YtmfcblbpicbhoaaDoor.Pure
open Go.RowKit Go.Proofs.YtmfcblbpicbhoaaDoor.PFnExactGoodMsg Go.Proofs.YtmfcblbpicbhoaaDoorW.PrintWords Go.Proofs.YtmfcblbpicbhoaaDoorW.PrintLast Go.Proofs.YtmfcblbpicbhoaaDoor.Aid
set_option linter.unusedVariables false
set_option linter.unusedSimpArgs false

theorem in_f (a b c : Int) : impl_in.f a b c = some (decide (b ≤ a ∧ a ≤ c)) := by
  unfold impl_in.f
  by_cases h : a ≥ b
  · rw [if_pos h]; simp [h]
  · rw [if_neg h]; simp [h]
theorem l1In_f (a b c : Int) : spec_l1In.f a b c = some (decide (b ≤ a ∧ a ≤ c)) := by
  unfold spec_l1In.f
  by_cases h : a ≥ b
  · rw [if_pos h]; simp [h]
  · rw [if_neg h]; simp [h]
def tidB (a b : Int) : Bool := decide (0 ≤ a ∧ a ≤ 1048575) && decide (0 ≤ b ∧ b ≤ 16777215)
theorem isTid_f (a b : Int) (c : Bool) : impl_isTid.f a b c = some (tidB a b) := by
  unfold impl_isTid.f tidB
  rw [in_f, in_f]
  by_cases h : 0 ≤ a ∧ a ≤ 1048575 <;> simp [h]
theorem l1Tid_f (a b : Int) (c : Bool) : spec_l1Tid.f a b c = some (tidB a b) := by
  unfold spec_l1Tid.f tidB
  rw [l1In_f, l1In_f]
  by_cases h : 0 ≤ a ∧ a ≤ 1048575 <;> simp [h]

def keyByte (b : UInt8) : Bool := (decide (97 ≤ b.toNat) && decide (b.toNat ≤ 122)) || (decide (48 ≤ b.toNat) && decide (b.toNat ≤ 57))
def keyB (s : ByteArray) : Bool := decide (1 ≤ s.size ∧ s.size ≤ 8) && s.data.toList.all keyByte
def valByte (b : UInt8) : Bool := decide (32 ≤ b.toNat) && decide (b.toNat ≤ 126) && decide (b.toNat ≠ 59)
def valB (s : ByteArray) : Bool := s.data.toList.all valByte && decide (s.size ≤ 20)
def keyCut : List UInt8 := [97, 98, 99, 100, 101, 102, 103, 104, 105, 106, 107, 108, 109, 110, 111, 112, 113, 114, 115, 116, 117, 118, 119, 120, 121, 122, 48, 49, 50, 51, 52, 53, 54, 55, 56, 57]
theorem keyCut_has (b : UInt8) : keyCut.contains b = keyByte b := by
  have h : ∀ n : Fin 256, keyCut.contains (UInt8.ofNat n.val) = keyByte (UInt8.ofNat n.val) := by decide +kernel
  have := h ⟨b.toNat, b.toNat_lt⟩
  simpa using this
theorem drop_nil {α : Type} (p : α → Bool) (l : List α) : (l.dropWhile p).isEmpty = l.all p := by
  induction l with
  | nil => rfl
  | cons x l ih => cases h : p x <;> simp [List.dropWhile_cons, h, ih]
theorem all_drop {α : Type} (p : α → Bool) (l : List α) : (l.dropWhile p).all p = l.all p := by
  induction l with
  | nil => rfl
  | cons x l ih => cases h : p x <;> simp [List.dropWhile_cons, h, ih]
theorem trim_nil (l : List UInt8) : (Go.Lib.trimS l keyCut == []) = l.all keyByte := by
  have e : (Go.Lib.trimS l keyCut == []) = (Go.Lib.trimS l keyCut).isEmpty := by cases Go.Lib.trimS l keyCut <;> rfl
  rw [e]
  unfold Go.Lib.trimS Go.Lib.trimLeftS Go.Lib.trimRightS
  rw [drop_nil, List.all_reverse, all_drop, List.all_reverse]
  congr 1
  funext b
  exact keyCut_has b
theorem isKey_f (s : ByteArray) : impl_isKey.f s = some (keyB s) := by
  unfold impl_isKey.f keyB
  by_cases h1 : (s.size : Int) ≥ 1
  · rw [if_pos h1]
    by_cases h2 : (s.size : Int) ≤ 8
    · rw [if_pos h2]
      have e : MapW.strings_Trim.f s ⟨#[97, 98, 99, 100, 101, 102, 103, 104, 105, 106, 107, 108, 109, 110, 111, 112, 113, 114, 115, 116, 117, 118, 119, 120, 121, 122, 48, 49, 50, 51, 52, 53, 54, 55, 56, 57]⟩ = some ⟨(Go.Lib.trimS s.data.toList keyCut).toArray⟩ := by
        unfold MapW.strings_Trim.f
        rw [if_pos ⟨by omega, by decide, by decide⟩]
        rfl
      rw [e]
      have h3 : 1 ≤ s.size ∧ s.size ≤ 8 := by omega
      simp only [Option.bind_some, toList_data, trim_nil, h3, decide_true, Bool.true_and, and_self]
    · rw [if_neg h2]
      have h3 : ¬ (1 ≤ s.size ∧ s.size ≤ 8) := by omega
      simp only [h3, decide_false, Bool.false_and]
  · rw [if_neg h1]
    have h3 : ¬ (1 ≤ s.size ∧ s.size ≤ 8) := by omega
    simp only [h3, decide_false, Bool.false_and]
theorem l1Key_ev (s : ByteArray) (hs : s.size ≤ 140737488355328) : Ev (fun k => spec_l1Key.f k s) (keyB s) := by
  have key := all_loop (fun k i => spec_l1Key.l0 k s i) s.data.toList keyByte (decide (1 ≤ s.size ∧ s.size ≤ 8)) (ev_last fun k => ?_) (fun n b r hx hn hp H => ?_) (fun n b hx hn hp => ?_)
  · have e : keyB s = (s.data.toList.all keyByte && decide (1 ≤ s.size ∧ s.size ≤ 8)) := by unfold keyB; exact Bool.and_comm _ _
    rw [e]
    exact Ev.congr (fun k => rfl) key
  · simp only [spec_l1Key.l0]
    rw [← size_len, if_neg (by omega), l1In_f]
    simp only [Option.bind_some]
    congr 2
    exact propext ⟨fun h => by omega, fun h => by omega⟩
  · refine Ev.step (fun k => ?_) H
    rw [← size_len] at hn
    simp only [spec_l1Key.l0]
    rw [if_pos (by omega), if_pos (by omega), wrap_nat (by omega), bt_nat hx]
    simp only [keyByte, Bool.or_eq_true, Bool.and_eq_true, decide_eq_true_eq] at hp
    by_cases a1 : (b.toNat : Int) ≥ 97
    · rw [if_pos a1]
      by_cases a2 : (b.toNat : Int) ≤ 122
      · rw [if_pos a2]
      · rw [if_neg a2]; omega
    · rw [if_neg a1, if_pos (by omega), if_pos (by omega)]
  · refine ev_last fun k => ?_
    rw [← size_len] at hn
    simp only [spec_l1Key.l0]
    rw [if_pos (by omega), if_pos (by omega), bt_nat hx]
    simp only [keyByte, Bool.or_eq_false_iff, Bool.and_eq_false_iff, decide_eq_false_iff_not] at hp
    by_cases a1 : (b.toNat : Int) ≥ 97
    · rw [if_pos a1, if_neg (by omega)]
      by_cases a2 : (b.toNat : Int) ≥ 48
      · rw [if_pos a2, if_neg (by omega)]
      · rw [if_neg a2]
    · rw [if_neg a1]
      by_cases a2 : (b.toNat : Int) ≥ 48
      · rw [if_pos a2, if_neg (by omega)]
      · rw [if_neg a2]

theorem l1Value_ev (s : ByteArray) (hs : s.size ≤ 140737488355328) : Ev (fun k => spec_l1Value.f k s) (valB s) := by
  have key := all_loop (fun k i => spec_l1Value.l0 k s i) s.data.toList valByte (decide (s.size ≤ 20)) (ev_last fun k => ?_) (fun n b r hx hn hp H => ?_) (fun n b hx hn hp => ?_)
  · exact Ev.congr (fun k => rfl) key
  · simp only [spec_l1Value.l0]
    rw [← size_len, if_neg (by omega)]
    congr 2
    exact propext ⟨fun h => by omega, fun h => by omega⟩
  · refine Ev.step (fun k => ?_) H
    rw [← size_len] at hn
    simp only [valByte, Bool.and_eq_true, decide_eq_true_eq] at hp
    simp only [spec_l1Value.l0]
    rw [if_pos (by omega), if_pos (by omega), wrap_nat (by omega), bt_nat hx, if_neg (by omega), if_neg (by omega), if_neg (by omega)]
  · refine ev_last fun k => ?_
    rw [← size_len] at hn
    simp only [valByte, Bool.and_eq_false_iff, decide_eq_false_iff_not] at hp
    simp only [spec_l1Value.l0]
    rw [if_pos (by omega), if_pos (by omega), bt_nat hx]
    by_cases a1 : (b.toNat : Int) < 32
    · rw [if_pos a1]
    · rw [if_neg a1]
      by_cases a2 : (b.toNat : Int) > 126
      · rw [if_pos a2]
      · rw [if_neg a2, if_pos (by omega)]
theorem isValue_ev (s : ByteArray) (hs : s.size ≤ 140737488355328) : Ev (fun k => impl_isValue.f k s) (valB s) := by
  have key := all_loop (fun k i => impl_isValue.l0 k s (s.size : Int) i) s.data.toList valByte (decide (s.size ≤ 20)) (ev_last fun k => ?_) (fun n b r hx hn hp H => ?_) (fun n b hx hn hp => ?_)
  · exact Ev.congr (fun k => rfl) key
  · simp only [impl_isValue.l0]
    rw [← size_len, if_neg (by omega)]
    congr 2
    exact propext ⟨fun h => by omega, fun h => by omega⟩
  · refine Ev.step (fun k => ?_) H
    rw [← size_len] at hn
    simp only [valByte, Bool.and_eq_true, decide_eq_true_eq] at hp
    simp only [impl_isValue.l0]
    rw [if_pos (by omega), if_pos (by omega), if_pos (by omega), wrap_nat (by omega), bt_nat hx, if_neg (by omega), if_neg (by omega), if_neg (by omega)]
  · refine ev_last fun k => ?_
    rw [← size_len] at hn
    simp only [valByte, Bool.and_eq_false_iff, decide_eq_false_iff_not] at hp
    simp only [impl_isValue.l0]
    rw [if_pos (by omega), if_pos (by omega), if_pos (by omega), bt_nat hx]
    by_cases a1 : (b.toNat : Int) < 32
    · rw [if_pos a1]
    · rw [if_neg a1]
      by_cases a2 : (b.toNat : Int) > 126
      · rw [if_pos a2]
      · rw [if_neg a2, if_pos (by omega)]

theorem ev_gate {c : Prop} [Decidable c] {g : Nat → Option Bool} {a b : Bool} (hc : c ↔ a = true) (h : a = true → Ev g b) : Ev (fun k => if c then g k else some false) (a && b) := by
  cases ha : a with
  | true => rw [Bool.true_and]; exact ev_if_pos (hc.mpr ha) (h ha)
  | false => rw [Bool.false_and]; exact ev_if_neg (fun x => by rw [hc.mp x] at ha; cases ha) (ev_some _)

def msgB (a b c d : Int) (s t : ByteArray) (e f : Int) : Bool := decide (1 ≤ a ∧ a ≤ 8) && (decide (0 ≤ b ∧ b ≤ 255) && (decide (0 ≤ c ∧ c ≤ 255) && (decide (0 ≤ d ∧ d ≤ 65535) && (keyB s && (valB t && tidB e f)))))
theorem specGoodMsg_ev (a b c d : Int) (s t : ByteArray) (e f : Int) (x : Bool) (hs : s.size ≤ 140737488355328) (ht : t.size ≤ 140737488355328) : Ev (fun k => spec_GoodMsg.f k a b c d s t e f x) (msgB a b c d s t e f) := by
  simp only [spec_GoodMsg.f, l1In_f, Option.bind_some, decide_eq_true_eq, l1Tid_f]
  unfold msgB
  refine ev_gate decide_eq_true_iff.symm fun _ => ?_
  refine ev_gate decide_eq_true_iff.symm fun _ => ?_
  refine ev_gate decide_eq_true_iff.symm fun _ => ?_
  refine ev_gate decide_eq_true_iff.symm fun _ => ?_
  refine ev_bind (l1Key_ev s hs) (ev_gate Iff.rfl fun _ => ?_)
  exact ev_bind (l1Value_ev t ht) (ev_gate Iff.rfl fun _ => ev_some _)
theorem isMsg_ev (a b c d : Int) (s t : ByteArray) (e f : Int) (x : Bool) (hs : s.size ≤ 140737488355328) (ht : t.size ≤ 140737488355328) : Ev (fun k => impl_isMsg.f k a b c d s t e f x) (msgB a b c d s t e f) := by
  simp only [impl_isMsg.f, in_f, Option.bind_some, decide_eq_true_eq, isTid_f, isKey_f]
  unfold msgB
  refine ev_gate decide_eq_true_iff.symm fun _ => ?_
  refine ev_gate decide_eq_true_iff.symm fun _ => ?_
  refine ev_gate decide_eq_true_iff.symm fun _ => ?_
  refine ev_gate decide_eq_true_iff.symm fun _ => ?_
  refine ev_gate Iff.rfl fun _ => ?_
  exact ev_bind (isValue_ev t ht) (ev_gate Iff.rfl fun _ => ev_some _)

theorem FnExactGoodMsg : laws_FnExactGoodMsg.Pure := by
  intro a b c d s t e f x _ _ _ _ hs ht _ _
  have w1 := specGoodMsg_ev a b c d s t e f x (by omega) (by omega)
  have w2 := isMsg_ev a b c d s t e f x (by omega) (by omega)
  obtain ⟨K, hK⟩ := ev_pair w1 w2
  refine ⟨K, ?_⟩
  obtain ⟨h1, h2⟩ := hK K (Nat.le_refl _)
  simp only [laws_FnExactGoodMsg.f, laws_szMsg.f, laws_toMsg.f, laws_toTid.f, impl_GoodMsg.f, Option.bind_some, h1, h2]
  have w3 : wrap64 (1048576 - (s.size : Int)) = 1048576 - (s.size : Int) := wrap_of (by omega) (by omega)
  rw [w3]
  by_cases c1 : 1048576 - (s.size : Int) < 0
  · simp [c1]
  · rw [if_neg c1]
    have w4 : wrap64 (1048576 - (s.size : Int) - (t.size : Int)) = 1048576 - (s.size : Int) - (t.size : Int) := wrap_of (by omega) (by omega)
    rw [w4]
    by_cases c2 : 1048576 - (s.size : Int) - (t.size : Int) < 0
    · simp [c2]
    · simp [c2]

end Go.Proofs.YtmfcblbpicbhoaaDoor.Pure
