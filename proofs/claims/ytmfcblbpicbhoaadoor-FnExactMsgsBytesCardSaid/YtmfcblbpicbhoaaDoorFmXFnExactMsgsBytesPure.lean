/- What the law's functions give: the pure part. -/
import Derived.Test.YtmfcblbpicbhoaaDoorFmAid
import Derived.Test.YtmfcblbpicbhoaaDoorFmOpn
import Derived.Test.YtmfcblbpicbhoaaDoorFmXFnExactMsgsBytesEq
set_option autoImplicit true
set_option maxRecDepth 100000
set_option linter.unusedVariables false
set_option linter.unusedSimpArgs false
set_option linter.unnecessarySimpa false
set_option linter.unusedSectionVars false
open Go Go.Fm Go.RowKit
namespace Go.Proofs.YtmfcblbpicbhoaaDoor.Fms
/-! ### base -/
theorem l1In_ev (n lo hi : Int) : Ev (fun k => spec_l1In k n lo hi) (decide (lo ≤ n ∧ n ≤ hi)) := ev_congr (fun k => by rw [spec_l1In_eq]) (by by_cases h : lo ≤ n <;> simp [ev_some_iff, h])

/-! ### inn -/
theorem in_ev (n lo hi : Int) : Ev (fun k => impl_in k n lo hi) (decide (lo ≤ n ∧ n ≤ hi)) := ev_congr (fun k => by rw [impl_in_eq]) (by by_cases h : lo ≤ n <;> simp [ev_some_iff, h])

/-! ### keys -/
def keyByte (b : UInt8) : Bool := (decide (97 ≤ b.toNat) && decide (b.toNat ≤ 122)) || (decide (48 ≤ b.toNat) && decide (b.toNat ≤ 57))
def keyB (s : ByteArray) : Bool := decide (1 ≤ s.size ∧ s.size ≤ 8) && s.data.toList.all keyByte
def keyCut : List UInt8 := [97, 98, 99, 100, 101, 102, 103, 104, 105, 106, 107, 108, 109, 110, 111, 112, 113, 114, 115, 116, 117, 118, 119, 120, 121, 122, 48, 49, 50, 51, 52, 53, 54, 55, 56, 57]
theorem keyCut_has (b : UInt8) : keyCut.contains b = keyByte b := by
  have h : ∀ n : Fin 256, keyCut.contains (UInt8.ofNat n.val) = keyByte (UInt8.ofNat n.val) := by decide +kernel
  have := h ⟨b.toNat, b.toNat_lt⟩
  simpa using this
theorem drop_nil {α : Type} (p : α → Bool) (l : List α) : (l.dropWhile p).isEmpty = l.all p := by
  induction l with
  | nil => rfl
  | cons x l ih => cases h : p x <;> simp [List.dropWhile_cons, h, ih]
theorem all_drop {α : Type} (p : α → Bool) (l : List α) : (l.dropWhile p).all p = l.all p := by
  induction l with
  | nil => rfl
  | cons x l ih => cases h : p x <;> simp [List.dropWhile_cons, h, ih]
theorem trim_nil (l : List UInt8) : (Go.Lib.trimS l keyCut).isEmpty = l.all keyByte := by
  unfold Go.Lib.trimS Go.Lib.trimLeftS Go.Lib.trimRightS
  rw [drop_nil, List.all_reverse, all_drop, List.all_reverse]
  congr 1
  funext b
  exact keyCut_has b
theorem mk_nil (l : List UInt8) : decide ((⟨l.toArray⟩ : ByteArray) = ByteArray.mk (Array.mk [])) = l.isEmpty := by
  cases l with
  | nil => exact decide_eq_true rfl
  | cons x l => exact decide_eq_false (fun h => by have := congrArg (fun b : ByteArray => b.data.size) h; simp at this)
theorem isKey_ev (s : ByteArray) : Ev (fun k => impl_isKey k s) (keyB s) := by
  refine ev_congr (fun k => impl_isKey_eq k s) ?_
  have e : MapW.strings_Trim.f s ⟨#[97, 98, 99, 100, 101, 102, 103, 104, 105, 106, 107, 108, 109, 110, 111, 112, 113, 114, 115, 116, 117, 118, 119, 120, 121, 122, 48, 49, 50, 51, 52, 53, 54, 55, 56, 57]⟩ = if s.size ≤ 9223372036854775807 then some ⟨(Go.Lib.trimS s.data.toList keyCut).toArray⟩ else none := by
    unfold MapW.strings_Trim.f
    by_cases h : s.size ≤ 9223372036854775807
    · rw [if_pos ⟨h, by decide, by decide⟩, if_pos h]; rfl
    · rw [if_neg (fun hh => h hh.1), if_neg h]
  simp only [e]
  unfold keyB
  by_cases h1 : (1 : Int) ≤ (s.size : Int)
  · by_cases h2 : (s.size : Int) ≤ 8
    · have h3 : 1 ≤ s.size ∧ s.size ≤ 8 := by omega
      rw [if_pos h1, if_pos h2, if_pos (by omega)]
      simp only [Option.bind_some, mk_nil, trim_nil, h3, decide_true, and_self, Bool.true_and]
      exact ev_some _
    · have h3 : ¬ (1 ≤ s.size ∧ s.size ≤ 8) := by omega
      rw [if_pos h1, if_neg h2]
      simp only [h3, decide_false, Bool.false_and]
      exact ev_some _
  · have h3 : ¬ (1 ≤ s.size ∧ s.size ≤ 8) := by omega
    rw [if_neg h1]
    simp only [h3, decide_false, Bool.false_and]
    exact ev_some _
theorem l1Key_ev (s : ByteArray) (hs : s.size ≤ 140737488355328) : Ev (fun k => spec_l1Key k s) (keyB s) := by
  have hl := size_len s
  have key := drop_ind0 s.data.toList (fun n rest => Ev (fun k => spec_l1Key_h2 k s (n : Int)) (rest.all keyByte && decide (1 ≤ s.size ∧ s.size ≤ 8))) ?_ ?_
  · refine ev_congr (fun k => spec_l1Key_eq k s) ?_
    unfold keyB
    rw [Bool.and_comm]
    exact key
  · refine ev_shift ?_
    simp only [spec_l1Key_h2_eq, ev_ite_iff, ev_bind_iff (l1In_ev _ _ _), ev_some_iff]
    rw [← hl, if_neg (by omega)]
    simp only [List.all_nil, Bool.true_and]
    congr 1
    exact propext ⟨fun h => by omega, fun h => by omega⟩
  · intro n b rest hn hx hd ih
    refine ev_shift ?_
    simp only [spec_l1Key_h2_eq, bt_nat hx, wrap_nat (show n < 9223372036854775807 by omega), ev_ite_iff, ev_some_iff, ev_none_iff, List.all_cons]
    rw [if_pos (by omega), if_pos (by omega), if_pos (by omega)]
    cases hp : keyByte b with
    | true =>
      simp only [Bool.true_and]
      simp only [keyByte, Bool.or_eq_true, Bool.and_eq_true, decide_eq_true_eq] at hp
      split
      · split
        · exact ih
        · rw [if_pos (by omega), if_neg (by omega)]; exact ih
      · rw [if_pos (by omega), if_neg (by omega)]; exact ih
    | false =>
      simp only [keyByte, Bool.or_eq_false_iff, Bool.and_eq_false_iff, decide_eq_false_iff_not] at hp
      simp only [Bool.false_and]
      split
      · rw [if_neg (by omega)]
        split
        · rw [if_pos (by omega)]; trivial
        · trivial
      · split
        · rw [if_pos (by omega)]; trivial
        · trivial

/-! ### allloop -/
/-! a loop that asks the same of each -/
def allFrom {α : Type} (p : Nat → α → Bool) : Nat → List α → Bool
  | _, [] => true
  | n, x :: l => p n x && allFrom p (n + 1) l
theorem allFrom_iff {α : Type} {p : Nat → α → Bool} : ∀ {l : List α} {n : Nat}, allFrom p n l = true ↔ ∀ i x, l[i]? = some x → p (n + i) x = true
  | [], n => by simp [allFrom]
  | x :: l, n => by
    simp only [allFrom, Bool.and_eq_true, allFrom_iff (l := l)]
    constructor
    · rintro ⟨h1, h2⟩ i y hy
      cases i with
      | zero => simp at hy; subst hy; exact h1
      | succ i => rw [show n + (i + 1) = n + 1 + i by omega]; exact h2 i y (by simpa using hy)
    · intro h
      refine ⟨h 0 x (by simp), fun i y hy => ?_⟩
      rw [show n + 1 + i = n + (i + 1) by omega]
      exact h (i + 1) y (by simpa using hy)
theorem all_loop {α : Type} (xs : List α) (H : Nat → Int → Option Bool) (p : Nat → α → Bool) (r : Bool) (hend : Ev (fun k => H k (xs.length : Int)) r)
    (hstep : ∀ n x v, n < xs.length → xs[n]? = some x → Ev (fun k => H k ((n + 1 : Nat) : Int)) v → Ev (fun k => H (k + 1) (n : Int)) (p n x && v)) : Ev (fun k => H k 0) (allFrom p 0 xs && r) := by
  have := drop_ind0 xs (fun n rest => Ev (fun k => H k (n : Int)) (allFrom p n rest && r)) (by simpa [allFrom] using hend) (fun n x rest hn hx _ ih => ?_)
  · simpa using this
  · refine ev_shift ?_
    have h := hstep n x _ hn hx ih
    rw [← Bool.and_assoc] at h
    exact h

/-! ### value -/
def chB (b : UInt8) : Bool := decide (32 ≤ b.toNat) && (decide (b.toNat ≤ 126) && !decide (b.toNat = 59))
def valB (s : ByteArray) : Bool := allFrom (fun _ b => chB b) 0 s.data.toList && decide (s.size ≤ 20)
theorem isValue_ev (s : ByteArray) (hs : s.size ≤ 140737488355328) : Ev (fun k => impl_isValue k s) (valB s) := by
  have hl := size_len s
  refine ev_congr (fun k => impl_isValue_eq k s) ?_
  refine all_loop s.data.toList (fun k i => impl_isValue_h2 k s (s.size : Int) i) (fun _ b => chB b) (decide (s.size ≤ 20)) ?_ ?_
  · refine ev_shift ?_
    simp only [impl_isValue_h2_eq, ev_ite_iff, ev_some_iff]
    rw [← hl, if_neg (by omega)]
    congr 1
    exact propext ⟨fun h => by omega, fun h => by omega⟩
  · intro n b v hn hx hv
    simp only [impl_isValue_h2_eq, bt_nat hx, wrap_nat (show n < 9223372036854775807 by omega), ev_ite_iff, ev_some_iff, ev_none_iff]
    have e0 : (0 : Int) ≤ (n : Int) := by omega
    have e1 : (n : Int) < (s.size : Int) := by omega
    simp only [if_pos e0, if_pos e1]
    unfold chB
    by_cases h1 : (b.toNat : Int) < 32
    · rw [if_pos h1]; simp [show ¬ 32 ≤ b.toNat by omega]
    · rw [if_neg h1]
      by_cases h2 : 126 < (b.toNat : Int)
      · rw [if_pos h2]; simp [show ¬ b.toNat ≤ 126 by omega]
      · rw [if_neg h2]
        by_cases h3 : (b.toNat : Int) = 59
        · rw [if_pos h3]; simp [show b.toNat = 59 by omega]
        · rw [if_neg h3]
          simpa [show 32 ≤ b.toNat by omega, show b.toNat ≤ 126 by omega, show ¬ b.toNat = 59 by omega] using hv
theorem l1Value_ev (s : ByteArray) (hs : s.size ≤ 140737488355328) : Ev (fun k => spec_l1Value k s) (valB s) := by
  have hl := size_len s
  refine ev_congr (fun k => spec_l1Value_eq k s) ?_
  refine all_loop s.data.toList (fun k i => spec_l1Value_h2 k s i) (fun _ b => chB b) (decide (s.size ≤ 20)) ?_ ?_
  · refine ev_shift ?_
    simp only [spec_l1Value_h2_eq, ev_ite_iff, ev_some_iff]
    rw [← hl, if_neg (by omega)]
    congr 1
    exact propext ⟨fun h => by omega, fun h => by omega⟩
  · intro n b v hn hx hv
    simp only [spec_l1Value_h2_eq, bt_nat hx, wrap_nat (show n < 9223372036854775807 by omega), ev_ite_iff, ev_some_iff, ev_none_iff]
    have e0 : (0 : Int) ≤ (n : Int) := by omega
    have e1 : (n : Int) < (s.size : Int) := by omega
    simp only [if_pos e0, if_pos e1]
    unfold chB
    by_cases h1 : (b.toNat : Int) < 32
    · rw [if_pos h1]; simp [show ¬ 32 ≤ b.toNat by omega]
    · rw [if_neg h1]
      by_cases h2 : 126 < (b.toNat : Int)
      · rw [if_pos h2]; simp [show ¬ b.toNat ≤ 126 by omega]
      · rw [if_neg h2]
        by_cases h3 : (b.toNat : Int) = 59
        · rw [if_pos h3]; simp [show b.toNat = 59 by omega]
        · rw [if_neg h3]
          simpa [show 32 ≤ b.toNat by omega, show b.toNat ≤ 126 by omega, show ¬ b.toNat = 59 by omega] using hv

/-! ### tid -/
abbrev TidT := Int × Int × Bool
abbrev TidK : Kind := .struct (.pair (.int .i64) (.pair (.int .i64) .bool))
def tidB (t : TidT) : Bool := decide (0 ≤ t.1 ∧ t.1 ≤ 1048575) && decide (0 ≤ t.2.1 ∧ t.2.1 ≤ 16777215)
theorem isTid_ev (t : TidT) : Ev (fun k => impl_isTid k t) (tidB t) := by
  refine ev_congr (fun k => impl_isTid_eq k t) ?_
  simp only [ev_bind_iff (in_ev _ _ _), ev_ite_iff, ev_some_iff, tidB]
  by_cases h : 0 ≤ t.1 ∧ t.1 ≤ 1048575 <;> simp [h]
theorem l1Tid_ev (t : TidT) : Ev (fun k => spec_l1Tid k t) (tidB t) := by
  refine ev_congr (fun k => spec_l1Tid_eq k t) ?_
  simp only [ev_bind_iff (l1In_ev _ _ _), ev_ite_iff, ev_some_iff, tidB]
  by_cases h : 0 ≤ t.1 ∧ t.1 ≤ 1048575 <;> simp [h]
theorem toTid_ev (x : TidT) : Ev (fun k => laws_toTid k x) x := ev_congr (fun k => laws_toTid_eq k x) (ev_some x)

/-! ### bytes -/
/-! bytes and texts -/
theorem bytesOf_cat (a b : List Int) : catS (bytesOf a) (bytesOf b) = bytesOf (a ++ b) := by
  simp [catS, bytesOf]
theorem bytesOf_byteL (s : ByteArray) : bytesOf (byteL s) = s := by
  apply ByteArray.ext
  apply Array.toList_inj.1
  simp only [bytesOf, byteL, List.map_map]
  refine (List.map_congr_left (g := id) fun b _ => ?_).trans (List.map_id _)
  simp
theorem byteL_len (s : ByteArray) : (byteL s).length = s.size := by
  simp only [byteL, List.length_map, Array.length_toList]; rfl
theorem bytesOf_len (l : List Int) : (bytesOf l).size = l.length := by
  show (bytesOf l).data.size = _
  simp [bytesOf]
theorem catS_text (a : List Int) (s : ByteArray) : catS (bytesOf a) s = bytesOf (a ++ byteL s) := by
  rw [← bytesOf_cat, bytesOf_byteL]
theorem byteL_one (x : Int) : byteL (bytesOf [Go.IntKind.wrap Go.IntKind.u8 x]) = [Go.IntKind.wrap Go.IntKind.u8 x] := by
  have h : Go.IntKind.wrap Go.IntKind.u8 x = x % 256 := by simp [IntKind.wrap, IntKind.signed, IntKind.bits]
  rw [h]
  have h1 : (x % 256).toNat < 256 := by omega
  simp only [byteL, bytesOf, List.map_cons, List.map_nil, List.cons.injEq, and_true]
  rw [UInt8.toNat_ofNat']
  omega

/-! ### msg -/
abbrev MsgT := Int × Int × Int × Int × ByteArray × ByteArray × TidT
abbrev MsgK : Kind := .struct (.pair (.int .i64) (.pair (.int .i64) (.pair (.int .i64) (.pair (.int .i64) (.pair .str (.pair .str TidK))))))
def msgB (m : MsgT) : Bool := decide (1 ≤ m.1 ∧ m.1 ≤ 8) && (decide (0 ≤ m.2.1 ∧ m.2.1 ≤ 255) && (decide (0 ≤ m.2.2.1 ∧ m.2.2.1 ≤ 255) && (decide (0 ≤ m.2.2.2.1 ∧ m.2.2.2.1 ≤ 65535) && (keyB m.2.2.2.2.1 && (valB m.2.2.2.2.2.1 && tidB m.2.2.2.2.2.2)))))
theorem specMsg_ev (m : MsgT) (h1 : m.2.2.2.2.1.size ≤ 1048576) (h2 : m.2.2.2.2.2.1.size ≤ 1048576) : Ev (fun k => spec_GoodMsg k m) (msgB m) := by
  refine ev_congr (fun k => spec_GoodMsg_eq k m) ?_
  simp only [ev_bind_iff (l1In_ev _ _ _), ev_bind_iff (l1Key_ev m.2.2.2.2.1 (by omega)), ev_bind_iff (l1Value_ev m.2.2.2.2.2.1 (by omega)), ev_bind_iff (l1Tid_ev _), ev_ite_iff, ev_some_iff]
  unfold msgB
  by_cases c1 : 1 ≤ m.1 ∧ m.1 ≤ 8 <;> by_cases c2 : 0 ≤ m.2.1 ∧ m.2.1 ≤ 255 <;> by_cases c3 : 0 ≤ m.2.2.1 ∧ m.2.2.1 ≤ 255 <;> by_cases c4 : 0 ≤ m.2.2.2.1 ∧ m.2.2.2.1 ≤ 65535 <;> cases keyB m.2.2.2.2.1 <;> cases valB m.2.2.2.2.2.1 <;> simp [c1, c2, c3, c4]
theorem isMsg_ev (m : MsgT) (h1 : m.2.2.2.2.1.size ≤ 1048576) (h2 : m.2.2.2.2.2.1.size ≤ 1048576) : Ev (fun k => impl_isMsg k m) (msgB m) := by
  refine ev_congr (fun k => impl_isMsg_eq k m) ?_
  simp only [ev_bind_iff (in_ev _ _ _), ev_bind_iff (isKey_ev m.2.2.2.2.1), ev_bind_iff (isValue_ev m.2.2.2.2.2.1 (by omega)), ev_bind_iff (isTid_ev _), ev_ite_iff, ev_some_iff]
  unfold msgB
  by_cases c1 : 1 ≤ m.1 ∧ m.1 ≤ 8 <;> by_cases c2 : 0 ≤ m.2.1 ∧ m.2.1 ≤ 255 <;> by_cases c3 : 0 ≤ m.2.2.1 ∧ m.2.2.1 ≤ 255 <;> by_cases c4 : 0 ≤ m.2.2.2.1 ∧ m.2.2.2.1 ≤ 65535 <;> cases keyB m.2.2.2.2.1 <;> cases valB m.2.2.2.2.2.1 <;> simp [c1, c2, c3, c4]
theorem pack_ev (t : TidT) : ∃ w : Int, (∀ k, spec_l1Pack k t = some w) ∧ ∀ k, impl_packTid k t = some w := by
  by_cases h : t.2.2 = true
  · exact ⟨_, fun k => by rw [spec_l1Pack_eq, if_pos h], fun k => by rw [impl_packTid_eq, if_pos h]⟩
  · exact ⟨_, fun k => by rw [spec_l1Pack_eq, if_neg h], fun k => by rw [impl_packTid_eq, if_neg h]⟩

/-! ### msgbytes -/
def sh (w : Int) (n : Nat) : Int := Go.IntKind.wrap Go.IntKind.u8 (Int.fdiv w (Int.instNatPow.1 2 (Min.min n 64)))
def szBMsg (m : MsgT) : Prop := m.2.2.2.2.1.size ≤ 1048576 ∧ m.2.2.2.2.2.1.size ≤ 1048576
theorem h4_step {m : MsgT} {l : List Int} {w : Int} {i : Nat} (hi : i ≤ 7) (hl : l.length ≤ 100) {r : ByteArray} (h : Ev (fun k => spec_l1Bytes_h4 k m (l ++ [sh w (8 * i)]) w ((i : Int) - 1)) r) : Ev (fun k => spec_l1Bytes_h4 k m l w (i : Int)) r := by
  have e1 : wrap64 (8 * (i : Int)) = ((8 * i : Nat) : Int) := by rw [wrap_of (by omega) (by omega)]; omega
  have e2 : Go.IntKind.wrap Go.IntKind.u64 ((8 * i : Nat) : Int) = ((8 * i : Nat) : Int) := wraps_u64 _ (by omega) (by omega)
  have e3 : wrap64 ((i : Int) - 1) = (i : Int) - 1 := wrap_of (by omega) (by omega)
  refine ev_shift ?_
  simp only [spec_l1Bytes_h4_eq, e1, e2, e3, Int.toNat_natCast, ev_ite_iff, ev_none_iff]
  rw [if_pos (by omega), if_neg (by omega), if_pos (by simp only [List.length_cons, List.length_nil]; omega)]
  exact h
theorem h4_end {m : MsgT} (hm : szBMsg m) {l : List Int} {w : Int} (hl : l.length ≤ 100) : Ev (fun k => spec_l1Bytes_h4 k m l w (-1)) (bytesOf (((((l ++ [Go.IntKind.wrap Go.IntKind.u8 (m.2.2.2.2.1.size : Int)]) ++ byteL m.2.2.2.2.1) ++ [Go.IntKind.wrap Go.IntKind.u8 (m.2.2.2.2.2.1.size : Int)])) ++ byteL m.2.2.2.2.2.1)) := by
  obtain ⟨h1, h2⟩ := hm
  refine ev_shift ?_
  simp only [spec_l1Bytes_h4_eq, bytesOf_cat, catS_text, bytesOf_len, List.length_append, byteL_len, List.length_cons, List.length_nil, ev_ite_iff, ev_none_iff, ev_some_iff]
  rw [if_neg (by omega), if_pos (by omega), if_pos (by omega), if_pos (by omega), if_pos (by omega), byteL_one, byteL_one]

/-! ### msgbytes2 -/
def outB (m : MsgT) (w : Int) : ByteArray := bytesOf (((((((((((([Go.IntKind.wrap Go.IntKind.u8 m.1, Go.IntKind.wrap Go.IntKind.u8 m.2.1, Go.IntKind.wrap Go.IntKind.u8 m.2.2.1, sh m.2.2.2.1 8, Go.IntKind.wrap Go.IntKind.u8 m.2.2.2.1] ++ [sh w 56]) ++ [sh w 48]) ++ [sh w 40]) ++ [sh w 32]) ++ [sh w 24]) ++ [sh w 16]) ++ [sh w 8]) ++ [sh w 0]) ++ [Go.IntKind.wrap Go.IntKind.u8 (m.2.2.2.2.1.size : Int)]) ++ byteL m.2.2.2.2.1) ++ [Go.IntKind.wrap Go.IntKind.u8 (m.2.2.2.2.2.1.size : Int)]) ++ byteL m.2.2.2.2.2.1)
theorem specBytes_ev (m : MsgT) (hm : szBMsg m) (w : Int) (hw : ∀ k, spec_l1Pack k m.2.2.2.2.2.2 = some w) : Ev (fun k => spec_l1Bytes k m) (outB m w) := by
  refine ev_congr (fun k => by rw [spec_l1Bytes_eq, hw k]; first | done | rfl) ?_
  unfold outB
  refine h4_step (i := 7) (by omega) (by simp) (h4_step (i := 6) (by omega) (by simp) (h4_step (i := 5) (by omega) (by simp) (h4_step (i := 4) (by omega) (by simp) (h4_step (i := 3) (by omega) (by simp) (h4_step (i := 2) (by omega) (by simp) (h4_step (i := 1) (by omega) (by simp) (h4_step (i := 0) (by omega) (by simp) (h4_end hm (by simp)))))))))
theorem au16_ev (l : List Int) (v : Int) (hl : l.length ≤ 1000) : Ev (fun k => binary_bigEndian_AppendUint16 k () l v) (l ++ [sh v 8, Go.IntKind.wrap Go.IntKind.u8 v]) :=
  ev_congr (fun k => by rw [binary_bigEndian_AppendUint16_eq, if_pos (by simp only [List.length_cons, List.length_nil]; omega)]; rfl) (ev_some _)
theorem au64_ev (l : List Int) (w : Int) (hl : l.length ≤ 1000) : Ev (fun k => binary_bigEndian_AppendUint64 k () l w) (l ++ [sh w 56, sh w 48, sh w 40, sh w 32, sh w 24, sh w 16, sh w 8, Go.IntKind.wrap Go.IntKind.u8 w]) :=
  ev_congr (fun k => by rw [binary_bigEndian_AppendUint64_eq, if_pos (by simp only [List.length_cons, List.length_nil]; omega)]; rfl) (ev_some _)
theorem implBytes_ev (m : MsgT) (hm : szBMsg m) (hb : msgB m = true) (w : Int) (hw : ∀ k, impl_packTid k m.2.2.2.2.2.2 = some w) : Ev (fun k => impl_msgBytes k m) (outB m w) := by
  obtain ⟨h1, h2⟩ := hm
  have ht : Go.IntKind.wrap Go.IntKind.u16 m.2.2.2.1 = m.2.2.2.1 := by
    simp only [msgB, Bool.and_eq_true, decide_eq_true_eq] at hb
    have := hb.2.2.2.1
    simp only [IntKind.wrap, IntKind.signed, IntKind.bits]
    simp
    omega
  refine ev_congr (fun k => impl_msgBytes_eq k m) ?_
  rw [ht]
  refine ev_bind (au16_ev _ _ (by simp)) (ev_bind (ev_congr hw (ev_some w)) (ev_bind (au64_ev _ _ (by simp)) ?_))
  have a0 := byteL_len m.2.2.2.2.1
  simp only [List.length_append, List.length_cons, List.length_nil, a0, ev_ite_iff, ev_none_iff, ev_some_iff]
  rw [if_pos (by omega), if_pos (by omega), if_pos (by omega), if_pos (by omega)]
  have e0 : sh w 0 = Go.IntKind.wrap Go.IntKind.u8 w := by
    unfold sh
    rw [show (Int.instNatPow.1 2 (Min.min 0 64) : Int) = 1 by decide, Int.fdiv_one]
  unfold outB
  rw [e0]
  simp only [List.append_assoc, List.cons_append, List.nil_append]

/-! ### sz2 -/
/-! two texts weigh what they weigh -/
theorem sz2 {F : Nat → Int → Option Int} {p q : ByteArray} (hp : p.size ≤ 140737488351232) (hq : q.size ≤ 140737488351232) (hs : ∀ k a, F k a = (if (wrap64 (a - (p.size : Int))) < 0 then some (-1) else (if (wrap64 ((wrap64 (a - (p.size : Int))) - (q.size : Int))) < 0 then some (-1) else some (wrap64 ((wrap64 (a - (p.size : Int))) - (q.size : Int))))))
    (a : Int) (h0 : 0 ≤ a) (h1 : a ≤ 1048576) : ∃ v, Ev (fun k => F k a) v ∧ v ≤ a ∧ (0 ≤ v → p.size ≤ 1048576 ∧ q.size ≤ 1048576) := by
  have w : wrap64 (a - (p.size : Int)) = a - p.size := wrap_of (by omega) (by omega)
  have w2 : wrap64 (a - (p.size : Int) - (q.size : Int)) = a - p.size - q.size := wrap_of (by omega) (by omega)
  by_cases h : a - (p.size : Int) < 0
  · exact ⟨-1, ev_congr (fun k => by rw [hs, w, if_pos h]) (ev_some _), by omega, fun h => by omega⟩
  · by_cases h' : a - (p.size : Int) - (q.size : Int) < 0
    · exact ⟨-1, ev_congr (fun k => by rw [hs, w, if_neg h, w2, if_pos h']) (ev_some _), by omega, fun h => by omega⟩
    · exact ⟨_, ev_congr (fun k => by rw [hs, w, if_neg h, w2, if_neg h']) (ev_some _), by omega, fun _ => by omega⟩

/-! ### tideq -/
theorem eqTid_ev (x : TidT) : Ev (fun k => laws_eqTid k x x) true := ev_congr (fun k => laws_eqTid_eq k x x) (by simp [ev_some_iff])

/-! ### msgsbytes -/
def szokMsg (x : MsgT) : Prop := x.2.2.2.2.1.size ≤ 140737488351232 ∧ x.2.2.2.2.2.1.size ≤ 140737488351232
theorem szMsg_ev (x : MsgT) (hx : szokMsg x) (a : Int) (h0 : 0 ≤ a) (ha : a ≤ 1048576) : ∃ v, Ev (fun k => laws_szMsg k x a) v ∧ v ≤ a ∧ (0 ≤ v → szBMsg x) := sz2 hx.1 hx.2 (fun k a => laws_szMsg_eq k x a) a h0 ha
theorem toMsg_ev (x : MsgT) : Ev (fun k => laws_toMsg k x) x := ev_congr (fun k => laws_toMsg_eq k x) (ev_bind (toTid_ev _) (ev_some x))
theorem eqMsg_ev (x : MsgT) : Ev (fun k => laws_eqMsg k x x) true := ev_congr (fun k => laws_eqMsg_eq k x x) (ev_if_neg (by simp) (ev_if_neg (by simp) (ev_if_neg (by simp) (ev_if_neg (by simp) (ev_if_neg (by simp) (ev_if_neg (by simp) (ev_bind (eqTid_ev _) (ev_if_neg (by simp) (ev_some _)))))))))
theorem szMsgS_ev (l) (hl : l.length ≤ 140737488355328) (hk : ∀ x ∈ l, szokMsg x) (a : Int) (h0 : 0 ≤ a) (h1 : a ≤ 1048576) : ∃ v, Ev (fun k => laws_szMsgS k l a) v ∧ v ≤ a ∧ (0 ≤ v → l.length ≤ 1048576 ∧ ∀ x ∈ l, szBMsg x) :=
  sz_top (fun k l a => laws_szMsgS_eq k l a) (sz_row (fun k l a i => laws_szMsgS_h5_eq k l a i) (fun x hx a h0 h1 => szMsg_ev x (hk x hx) a h0 h1) (by omega)) hl a h0 h1
theorem toMsgS_ev (l) (hl : l.length ≤ 1048576) : Ev (fun k => laws_toMsgS k l) l := by
  refine ev_congr (fun k => laws_toMsgS_eq k l) ?_
  simp only [ev_ite_iff]
  rw [if_pos trivial, if_pos (by omega)]
  simpa using to_row (l := l) (cv := id) (z := _) (fun k l r i => laws_toMsgS_h3_eq k l r i) (fun x _ => toMsg_ev x) (by omega)
theorem eqMsgS_ev (l) (hl : l.length ≤ 140737488355328) : Ev (fun k => laws_eqMsgS k l l) true := by
  refine ev_congr (fun k => laws_eqMsgS_eq k l l) ?_
  simp only [ev_ite_iff]
  rw [if_neg (by simp)]
  exact eq_row (l := l) (fun k a b i => laws_eqMsgS_h4_eq k a b i) (fun x _ => eqMsg_ev x) (by omega)
noncomputable def outM (m : MsgT) : ByteArray := outB m (Classical.choose (pack_ev m.2.2.2.2.2.2))
theorem specM_ev (m : MsgT) (hm : szBMsg m) : Ev (fun k => spec_l1Bytes k m) (outM m) := specBytes_ev m hm _ (Classical.choose_spec (pack_ev m.2.2.2.2.2.2)).1
theorem implM_ev (m : MsgT) (hm : szBMsg m) (hb : msgB m = true) : Ev (fun k => impl_msgBytes k m) (outM m) := implBytes_ev m hm hb _ (Classical.choose_spec (pack_ev m.2.2.2.2.2.2)).2
theorem outM_size (m : MsgT) (hm : szBMsg m) : (outM m).size ≤ 2097200 := by
  have h1 := hm.1
  have h2 := hm.2
  unfold outM outB
  rw [bytesOf_len]
  simp only [List.length_append, List.length_cons, List.length_nil, byteL_len]
  omega
theorem catS_size (a b : ByteArray) : (catS a b).size = a.size + b.size := by
  show (catS a b).data.size = a.data.size + b.data.size
  simp [catS]
noncomputable def catAll (acc : ByteArray) : List MsgT → ByteArray
  | [] => acc
  | m :: r => catAll (catS acc (outM m)) r
theorem specLoop_ev (l : List MsgT) (hl : l.length ≤ 60) (hs : ∀ x ∈ l, szBMsg x) : Ev (fun k => spec_MsgsBytes_h5 k (ByteArray.mk (Array.mk [])) l (l.length : Int) 0) (if l.all msgB = true then (catAll (ByteArray.mk (Array.mk [])) l, true) else (ByteArray.mk (Array.mk []), false)) := by
  have key := drop_ind0 l (fun n rest => ∀ acc : ByteArray, acc.size ≤ n * 2097200 → Ev (fun k => spec_MsgsBytes_h5 k acc l (l.length : Int) (n : Int)) (if rest.all msgB = true then (catAll acc rest, true) else (ByteArray.mk (Array.mk []), false))) ?_ ?_
  · exact key _ (by decide)
  · intro acc _
    exact ev_last fun k => by rw [spec_MsgsBytes_h5_eq, if_neg (by omega)]; rfl
  · intro n m rest hn hm _ ih acc ha
    have hz := hs m (List.mem_of_getElem? hm)
    have ho := outM_size m hz
    have q0 : (0 : Int) ≤ (n : Int) := by omega
    have q1 : (n : Int) < (l.length : Int) := by omega
    have q2 : acc.size + (outM m).size ≤ 9223372036854775807 := by omega
    refine ev_shift ?_
    simp only [spec_MsgsBytes_h5_eq, rdT_get (e := MsgK) hm, wrap_nat (show n < 9223372036854775807 by omega), ev_bind_iff (specMsg_ev m hz.1 hz.2), ev_bind_iff (specM_ev m hz), ev_ite_iff, ev_none_iff, ev_some_iff]
    rw [if_pos q1, if_pos q0, if_pos q1, if_pos q2, List.all_cons]
    have hi := ih (catS acc (outM m)) (by rw [catS_size]; omega)
    by_cases hb : msgB m = true
    · have e : (msgB m && rest.all msgB) = rest.all msgB := by rw [hb, Bool.true_and]
      rw [if_neg (by simp [hb]), e]
      exact hi
    · have e : (msgB m && rest.all msgB) = false := by simp [hb]
      rw [if_pos (by simp [hb]), e]
      rfl
theorem isM_ev (m : MsgT) (hm : szBMsg m) : Ev (fun k => impl_MsgsBytes_1 k m) (!msgB m) := by
  refine ev_congr (fun k => impl_MsgsBytes_1_eq k m) ?_
  simp only [ev_bind_iff (isMsg_ev m hm.1 hm.2), ev_some_iff]
theorem idx_nonneg {α : Type} (p : α → Bool) : ∀ (l : List α) (n : Nat), decide (0 ≤ idxFrom p n l) = l.any p
  | [], n => rfl
  | x :: l, n => by
    rw [List.any_cons, ← idx_nonneg p l (n + 1), idxFrom]
    by_cases h : p x = true <;> simp [h]
theorem has_ev (l : List MsgT) (hl : l.length ≤ 1048576) (hs : ∀ x ∈ l, szBMsg x) : Ev (fun k => slices_ContainsFunc k l ()) (l.any fun m => !msgB m) := by
  have key := drop_ind0 l (fun n rest => Ev (fun k => slices_IndexFunc_h2 k l () (l.length : Int) (n : Int)) (idxFrom (fun m => !msgB m) n rest)) ?_ ?_
  · refine ev_congr (fun k => slices_ContainsFunc_eq k l _) ?_
    simp only [ev_bind_iff (ev_congr (fun k => slices_IndexFunc_eq k l ()) key), ev_some_iff, idx_nonneg]
  · exact ev_last fun k => by rw [slices_IndexFunc_h2_eq, if_neg (by omega)]; rfl
  · intro n m rest hn hm _ ih
    have q0 : (0 : Int) ≤ (n : Int) := by omega
    have q1 : (n : Int) < (l.length : Int) := by omega
    refine ev_shift ?_
    simp only [slices_IndexFunc_h2_eq, ev_bind_iff (isM_ev m (hs m (List.mem_of_getElem? hm))), rdT_get (e := MsgK) hm, wrap_nat (show n < 9223372036854775807 by omega), ev_ite_iff, ev_none_iff, ev_some_iff, idxFrom]
    rw [if_pos q1, if_pos q0, if_pos q1]
    by_cases h1 : msgB m = true
    · rw [if_neg (by simp [h1]), if_neg (by simp [h1])]
      exact ih
    · rw [if_pos (by simp [h1]), if_pos (by simp [h1])]
theorem implLoop_ev (l : List MsgT) (hl : l.length ≤ 60) (hs : ∀ x ∈ l, szBMsg x) (hg : ∀ x ∈ l, msgB x = true) : Ev (fun k => impl_MsgsBytes_h5 k (ByteArray.mk (Array.mk [])) l (l.length : Int) 0) (catAll (ByteArray.mk (Array.mk [])) l, true) := by
  have key := drop_ind0 l (fun n rest => ∀ acc : ByteArray, acc.size ≤ n * 2097200 → Ev (fun k => impl_MsgsBytes_h5 k acc l (l.length : Int) (n : Int)) (catAll acc rest, true)) ?_ ?_
  · exact key _ (by decide)
  · intro acc _
    exact ev_last fun k => by rw [impl_MsgsBytes_h5_eq, if_neg (by omega)]; rfl
  · intro n m rest hn hm _ ih acc ha
    have hz := hs m (List.mem_of_getElem? hm)
    have ho := outM_size m hz
    have q0 : (0 : Int) ≤ (n : Int) := by omega
    have q1 : (n : Int) < (l.length : Int) := by omega
    have q2 : acc.size + (outM m).size ≤ 9223372036854775807 := by omega
    refine ev_shift ?_
    simp only [impl_MsgsBytes_h5_eq, rdT_get (e := MsgK) hm, wrap_nat (show n < 9223372036854775807 by omega), ev_bind_iff (implM_ev m hz (hg m (List.mem_of_getElem? hm))), ev_ite_iff, ev_none_iff, ev_some_iff]
    rw [if_pos q1, if_pos q0, if_pos q1, if_pos q2]
    exact ih (catS acc (outM m)) (by rw [catS_size]; omega)
theorem law (a0 : List MsgT) (h0 : okT (.slice MsgK) a0) : ∃ k, laws_FnExactMsgsBytes k a0 = some true := by
  apply ev_fuel
  refine ev_congr (fun k => laws_FnExactMsgsBytes_eq k a0) ?_
  obtain ⟨v, hv, _, hB⟩ := szMsgS_ev a0 (Nat.le_trans h0.1 (by omega)) (fun x hx => ⟨(h0.2 x hx).2.2.2.2.1, (h0.2 x hx).2.2.2.2.2.1⟩) 1048576 (by omega) (by omega)
  refine ev_bind hv ?_
  by_cases hneg : v < 0
  · exact ev_if_pos hneg (ev_some _)
  refine ev_if_neg hneg ?_
  have hs := hB (by omega)
  have to := toMsgS_ev a0 hs.1
  have main : ∃ r : ByteArray × Bool, Ev (fun k => spec_MsgsBytes k a0) r ∧ Ev (fun k => impl_MsgsBytes k a0) r := by
    by_cases h60 : 60 < a0.length
    · exact ⟨_, ev_congr (fun k => spec_MsgsBytes_eq k a0) (ev_if_pos (by omega) (ev_some _)), ev_congr (fun k => impl_MsgsBytes_eq k a0) (ev_if_pos (by omega) (ev_some _))⟩
    · have s1 := specLoop_ev a0 (by omega) hs.2
      have c1 := has_ev a0 (by omega) hs.2
      refine ⟨_, ev_congr (fun k => spec_MsgsBytes_eq k a0) (ev_if_neg (by omega) s1), ev_congr (fun k => impl_MsgsBytes_eq k a0) (ev_if_neg (by omega) (ev_bind c1 ?_))⟩
      by_cases hg : a0.all msgB = true
      · rw [if_pos hg]
        have hg' : ∀ x ∈ a0, msgB x = true := List.all_eq_true.1 hg
        refine ev_if_neg ?_ (implLoop_ev a0 (by omega) hs.2 hg')
        simp only [List.any_eq_true, not_exists, not_and]
        intro x hx
        rw [hg' x hx]
        decide
      · rw [if_neg hg]
        refine ev_if_pos ?_ (ev_some _)
        simp only [List.all_eq_true, Classical.not_forall] at hg
        obtain ⟨x, hx, hb⟩ := hg
        exact List.any_eq_true.2 ⟨x, hx, by simp [hb]⟩
  obtain ⟨r, b1, b2⟩ := main
  exact ev_bind to (ev_bind b1 (ev_bind to (ev_bind b2 (ev_if_neg (by simp) (ev_if_neg (by simp) (ev_bind to (ev_bind (eqMsgS_ev a0 (by omega)) (ev_if_neg (by simp) (ev_some _)))))))))

end Go.Proofs.YtmfcblbpicbhoaaDoor.Fms
