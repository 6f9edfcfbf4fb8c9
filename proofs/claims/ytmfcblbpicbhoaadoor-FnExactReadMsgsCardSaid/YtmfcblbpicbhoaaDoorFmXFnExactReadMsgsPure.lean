/- What the law's functions give: the pure part. -/
import Derived.Test.YtmfcblbpicbhoaaDoorFmAid
import Derived.Test.YtmfcblbpicbhoaaDoorFmOpn
import Derived.Test.YtmfcblbpicbhoaaDoorFmXFnExactReadMsgsEq
set_option autoImplicit true
set_option maxRecDepth 100000
set_option linter.unusedVariables false
set_option linter.unusedSimpArgs false
set_option linter.unnecessarySimpa false
set_option linter.unusedSectionVars false
open Go Go.Fm Go.RowKit
namespace Go.Proofs.YtmfcblbpicbhoaaDoor.Fms
/-! ### base -/
theorem l1In_ev (n lo hi : Int) : Ev (fun k => spec_l1In k n lo hi) (decide (lo ≤ n ∧ n ≤ hi)) := ev_congr (fun k => by rw [spec_l1In_eq]) (by by_cases h : lo ≤ n <;> simp [ev_some_iff, h])

/-! ### inn -/
theorem in_ev (n lo hi : Int) : Ev (fun k => impl_in k n lo hi) (decide (lo ≤ n ∧ n ≤ hi)) := ev_congr (fun k => by rw [impl_in_eq]) (by by_cases h : lo ≤ n <;> simp [ev_some_iff, h])

/-! ### keys -/
def keyByte (b : UInt8) : Bool := (decide (97 ≤ b.toNat) && decide (b.toNat ≤ 122)) || (decide (48 ≤ b.toNat) && decide (b.toNat ≤ 57))
def keyB (s : ByteArray) : Bool := decide (1 ≤ s.size ∧ s.size ≤ 8) && s.data.toList.all keyByte
def keyCut : List UInt8 := [97, 98, 99, 100, 101, 102, 103, 104, 105, 106, 107, 108, 109, 110, 111, 112, 113, 114, 115, 116, 117, 118, 119, 120, 121, 122, 48, 49, 50, 51, 52, 53, 54, 55, 56, 57]
theorem keyCut_has (b : UInt8) : keyCut.contains b = keyByte b := by
  have h : ∀ n : Fin 256, keyCut.contains (UInt8.ofNat n.val) = keyByte (UInt8.ofNat n.val) := by decide +kernel
  have := h ⟨b.toNat, b.toNat_lt⟩
  simpa using this
theorem drop_nil {α : Type} (p : α → Bool) (l : List α) : (l.dropWhile p).isEmpty = l.all p := by
  induction l with
  | nil => rfl
  | cons x l ih => cases h : p x <;> simp [List.dropWhile_cons, h, ih]
theorem all_drop {α : Type} (p : α → Bool) (l : List α) : (l.dropWhile p).all p = l.all p := by
  induction l with
  | nil => rfl
  | cons x l ih => cases h : p x <;> simp [List.dropWhile_cons, h, ih]
theorem trim_nil (l : List UInt8) : (Go.Lib.trimS l keyCut).isEmpty = l.all keyByte := by
  unfold Go.Lib.trimS Go.Lib.trimLeftS Go.Lib.trimRightS
  rw [drop_nil, List.all_reverse, all_drop, List.all_reverse]
  congr 1
  funext b
  exact keyCut_has b
theorem mk_nil (l : List UInt8) : decide ((⟨l.toArray⟩ : ByteArray) = ByteArray.mk (Array.mk [])) = l.isEmpty := by
  cases l with
  | nil => exact decide_eq_true rfl
  | cons x l => exact decide_eq_false (fun h => by have := congrArg (fun b : ByteArray => b.data.size) h; simp at this)
theorem isKey_ev (s : ByteArray) : Ev (fun k => impl_isKey k s) (keyB s) := by
  refine ev_congr (fun k => impl_isKey_eq k s) ?_
  have e : MapW.strings_Trim.f s ⟨#[97, 98, 99, 100, 101, 102, 103, 104, 105, 106, 107, 108, 109, 110, 111, 112, 113, 114, 115, 116, 117, 118, 119, 120, 121, 122, 48, 49, 50, 51, 52, 53, 54, 55, 56, 57]⟩ = if s.size ≤ 9223372036854775807 then some ⟨(Go.Lib.trimS s.data.toList keyCut).toArray⟩ else none := by
    unfold MapW.strings_Trim.f
    by_cases h : s.size ≤ 9223372036854775807
    · rw [if_pos ⟨h, by decide, by decide⟩, if_pos h]; rfl
    · rw [if_neg (fun hh => h hh.1), if_neg h]
  simp only [e]
  unfold keyB
  by_cases h1 : (1 : Int) ≤ (s.size : Int)
  · by_cases h2 : (s.size : Int) ≤ 8
    · have h3 : 1 ≤ s.size ∧ s.size ≤ 8 := by omega
      rw [if_pos h1, if_pos h2, if_pos (by omega)]
      simp only [Option.bind_some, mk_nil, trim_nil, h3, decide_true, and_self, Bool.true_and]
      exact ev_some _
    · have h3 : ¬ (1 ≤ s.size ∧ s.size ≤ 8) := by omega
      rw [if_pos h1, if_neg h2]
      simp only [h3, decide_false, Bool.false_and]
      exact ev_some _
  · have h3 : ¬ (1 ≤ s.size ∧ s.size ≤ 8) := by omega
    rw [if_neg h1]
    simp only [h3, decide_false, Bool.false_and]
    exact ev_some _
theorem l1Key_ev (s : ByteArray) (hs : s.size ≤ 140737488355328) : Ev (fun k => spec_l1Key k s) (keyB s) := by
  have hl := size_len s
  have key := drop_ind0 s.data.toList (fun n rest => Ev (fun k => spec_l1Key_h2 k s (n : Int)) (rest.all keyByte && decide (1 ≤ s.size ∧ s.size ≤ 8))) ?_ ?_
  · refine ev_congr (fun k => spec_l1Key_eq k s) ?_
    unfold keyB
    rw [Bool.and_comm]
    exact key
  · refine ev_shift ?_
    simp only [spec_l1Key_h2_eq, ev_ite_iff, ev_bind_iff (l1In_ev _ _ _), ev_some_iff]
    rw [← hl, if_neg (by omega)]
    simp only [List.all_nil, Bool.true_and]
    congr 1
    exact propext ⟨fun h => by omega, fun h => by omega⟩
  · intro n b rest hn hx hd ih
    refine ev_shift ?_
    simp only [spec_l1Key_h2_eq, bt_nat hx, wrap_nat (show n < 9223372036854775807 by omega), ev_ite_iff, ev_some_iff, ev_none_iff, List.all_cons]
    rw [if_pos (by omega), if_pos (by omega), if_pos (by omega)]
    cases hp : keyByte b with
    | true =>
      simp only [Bool.true_and]
      simp only [keyByte, Bool.or_eq_true, Bool.and_eq_true, decide_eq_true_eq] at hp
      split
      · split
        · exact ih
        · rw [if_pos (by omega), if_neg (by omega)]; exact ih
      · rw [if_pos (by omega), if_neg (by omega)]; exact ih
    | false =>
      simp only [keyByte, Bool.or_eq_false_iff, Bool.and_eq_false_iff, decide_eq_false_iff_not] at hp
      simp only [Bool.false_and]
      split
      · rw [if_neg (by omega)]
        split
        · rw [if_pos (by omega)]; trivial
        · trivial
      · split
        · rw [if_pos (by omega)]; trivial
        · trivial

/-! ### allloop -/
/-! a loop that asks the same of each -/
def allFrom {α : Type} (p : Nat → α → Bool) : Nat → List α → Bool
  | _, [] => true
  | n, x :: l => p n x && allFrom p (n + 1) l
theorem allFrom_iff {α : Type} {p : Nat → α → Bool} : ∀ {l : List α} {n : Nat}, allFrom p n l = true ↔ ∀ i x, l[i]? = some x → p (n + i) x = true
  | [], n => by simp [allFrom]
  | x :: l, n => by
    simp only [allFrom, Bool.and_eq_true, allFrom_iff (l := l)]
    constructor
    · rintro ⟨h1, h2⟩ i y hy
      cases i with
      | zero => simp at hy; subst hy; exact h1
      | succ i => rw [show n + (i + 1) = n + 1 + i by omega]; exact h2 i y (by simpa using hy)
    · intro h
      refine ⟨h 0 x (by simp), fun i y hy => ?_⟩
      rw [show n + 1 + i = n + (i + 1) by omega]
      exact h (i + 1) y (by simpa using hy)
theorem all_loop {α : Type} (xs : List α) (H : Nat → Int → Option Bool) (p : Nat → α → Bool) (r : Bool) (hend : Ev (fun k => H k (xs.length : Int)) r)
    (hstep : ∀ n x v, n < xs.length → xs[n]? = some x → Ev (fun k => H k ((n + 1 : Nat) : Int)) v → Ev (fun k => H (k + 1) (n : Int)) (p n x && v)) : Ev (fun k => H k 0) (allFrom p 0 xs && r) := by
  have := drop_ind0 xs (fun n rest => Ev (fun k => H k (n : Int)) (allFrom p n rest && r)) (by simpa [allFrom] using hend) (fun n x rest hn hx _ ih => ?_)
  · simpa using this
  · refine ev_shift ?_
    have h := hstep n x _ hn hx ih
    rw [← Bool.and_assoc] at h
    exact h

/-! ### value -/
def chB (b : UInt8) : Bool := decide (32 ≤ b.toNat) && (decide (b.toNat ≤ 126) && !decide (b.toNat = 59))
def valB (s : ByteArray) : Bool := allFrom (fun _ b => chB b) 0 s.data.toList && decide (s.size ≤ 20)
theorem isValue_ev (s : ByteArray) (hs : s.size ≤ 140737488355328) : Ev (fun k => impl_isValue k s) (valB s) := by
  have hl := size_len s
  refine ev_congr (fun k => impl_isValue_eq k s) ?_
  refine all_loop s.data.toList (fun k i => impl_isValue_h2 k s (s.size : Int) i) (fun _ b => chB b) (decide (s.size ≤ 20)) ?_ ?_
  · refine ev_shift ?_
    simp only [impl_isValue_h2_eq, ev_ite_iff, ev_some_iff]
    rw [← hl, if_neg (by omega)]
    congr 1
    exact propext ⟨fun h => by omega, fun h => by omega⟩
  · intro n b v hn hx hv
    simp only [impl_isValue_h2_eq, bt_nat hx, wrap_nat (show n < 9223372036854775807 by omega), ev_ite_iff, ev_some_iff, ev_none_iff]
    have e0 : (0 : Int) ≤ (n : Int) := by omega
    have e1 : (n : Int) < (s.size : Int) := by omega
    simp only [if_pos e0, if_pos e1]
    unfold chB
    by_cases h1 : (b.toNat : Int) < 32
    · rw [if_pos h1]; simp [show ¬ 32 ≤ b.toNat by omega]
    · rw [if_neg h1]
      by_cases h2 : 126 < (b.toNat : Int)
      · rw [if_pos h2]; simp [show ¬ b.toNat ≤ 126 by omega]
      · rw [if_neg h2]
        by_cases h3 : (b.toNat : Int) = 59
        · rw [if_pos h3]; simp [show b.toNat = 59 by omega]
        · rw [if_neg h3]
          simpa [show 32 ≤ b.toNat by omega, show b.toNat ≤ 126 by omega, show ¬ b.toNat = 59 by omega] using hv
theorem l1Value_ev (s : ByteArray) (hs : s.size ≤ 140737488355328) : Ev (fun k => spec_l1Value k s) (valB s) := by
  have hl := size_len s
  refine ev_congr (fun k => spec_l1Value_eq k s) ?_
  refine all_loop s.data.toList (fun k i => spec_l1Value_h2 k s i) (fun _ b => chB b) (decide (s.size ≤ 20)) ?_ ?_
  · refine ev_shift ?_
    simp only [spec_l1Value_h2_eq, ev_ite_iff, ev_some_iff]
    rw [← hl, if_neg (by omega)]
    congr 1
    exact propext ⟨fun h => by omega, fun h => by omega⟩
  · intro n b v hn hx hv
    simp only [spec_l1Value_h2_eq, bt_nat hx, wrap_nat (show n < 9223372036854775807 by omega), ev_ite_iff, ev_some_iff, ev_none_iff]
    have e0 : (0 : Int) ≤ (n : Int) := by omega
    have e1 : (n : Int) < (s.size : Int) := by omega
    simp only [if_pos e0, if_pos e1]
    unfold chB
    by_cases h1 : (b.toNat : Int) < 32
    · rw [if_pos h1]; simp [show ¬ 32 ≤ b.toNat by omega]
    · rw [if_neg h1]
      by_cases h2 : 126 < (b.toNat : Int)
      · rw [if_pos h2]; simp [show ¬ b.toNat ≤ 126 by omega]
      · rw [if_neg h2]
        by_cases h3 : (b.toNat : Int) = 59
        · rw [if_pos h3]; simp [show b.toNat = 59 by omega]
        · rw [if_neg h3]
          simpa [show 32 ≤ b.toNat by omega, show b.toNat ≤ 126 by omega, show ¬ b.toNat = 59 by omega] using hv

/-! ### tid0 -/
abbrev TidT := Int × Int × Bool
abbrev TidK : Kind := .struct (.pair (.int .i64) (.pair (.int .i64) .bool))
def tidB (t : TidT) : Bool := decide (0 ≤ t.1 ∧ t.1 ≤ 1048575) && decide (0 ≤ t.2.1 ∧ t.2.1 ≤ 16777215)
theorem isTid_ev (t : TidT) : Ev (fun k => impl_isTid k t) (tidB t) := by
  refine ev_congr (fun k => impl_isTid_eq k t) ?_
  simp only [ev_bind_iff (in_ev _ _ _), ev_ite_iff, ev_some_iff, tidB]
  by_cases h : 0 ≤ t.1 ∧ t.1 ≤ 1048575 <;> simp [h]
theorem l1Tid_ev (t : TidT) : Ev (fun k => spec_l1Tid k t) (tidB t) := by
  refine ev_congr (fun k => spec_l1Tid_eq k t) ?_
  simp only [ev_bind_iff (l1In_ev _ _ _), ev_ite_iff, ev_some_iff, tidB]
  by_cases h : 0 ≤ t.1 ∧ t.1 ≤ 1048575 <;> simp [h]

/-! ### bytes -/
/-! bytes and texts -/
theorem bytesOf_cat (a b : List Int) : catS (bytesOf a) (bytesOf b) = bytesOf (a ++ b) := by
  simp [catS, bytesOf]
theorem bytesOf_byteL (s : ByteArray) : bytesOf (byteL s) = s := by
  apply ByteArray.ext
  apply Array.toList_inj.1
  simp only [bytesOf, byteL, List.map_map]
  refine (List.map_congr_left (g := id) fun b _ => ?_).trans (List.map_id _)
  simp
theorem byteL_len (s : ByteArray) : (byteL s).length = s.size := by
  simp only [byteL, List.length_map, Array.length_toList]; rfl
theorem bytesOf_len (l : List Int) : (bytesOf l).size = l.length := by
  show (bytesOf l).data.size = _
  simp [bytesOf]
theorem catS_text (a : List Int) (s : ByteArray) : catS (bytesOf a) s = bytesOf (a ++ byteL s) := by
  rw [← bytesOf_cat, bytesOf_byteL]
theorem byteL_one (x : Int) : byteL (bytesOf [Go.IntKind.wrap Go.IntKind.u8 x]) = [Go.IntKind.wrap Go.IntKind.u8 x] := by
  have h : Go.IntKind.wrap Go.IntKind.u8 x = x % 256 := by simp [IntKind.wrap, IntKind.signed, IntKind.bits]
  rw [h]
  have h1 : (x % 256).toNat < 256 := by omega
  simp only [byteL, bytesOf, List.map_cons, List.map_nil, List.cons.injEq, and_true]
  rw [UInt8.toNat_ofNat']
  omega

/-! ### msg0 -/
abbrev MsgT := Int × Int × Int × Int × ByteArray × ByteArray × TidT
abbrev MsgK : Kind := .struct (.pair (.int .i64) (.pair (.int .i64) (.pair (.int .i64) (.pair (.int .i64) (.pair .str (.pair .str TidK))))))
def msgB (m : MsgT) : Bool := decide (1 ≤ m.1 ∧ m.1 ≤ 8) && (decide (0 ≤ m.2.1 ∧ m.2.1 ≤ 255) && (decide (0 ≤ m.2.2.1 ∧ m.2.2.1 ≤ 255) && (decide (0 ≤ m.2.2.2.1 ∧ m.2.2.2.1 ≤ 65535) && (keyB m.2.2.2.2.1 && (valB m.2.2.2.2.2.1 && tidB m.2.2.2.2.2.2)))))
theorem specMsg_ev (m : MsgT) (h1 : m.2.2.2.2.1.size ≤ 1048576) (h2 : m.2.2.2.2.2.1.size ≤ 1048576) : Ev (fun k => spec_GoodMsg k m) (msgB m) := by
  refine ev_congr (fun k => spec_GoodMsg_eq k m) ?_
  simp only [ev_bind_iff (l1In_ev _ _ _), ev_bind_iff (l1Key_ev m.2.2.2.2.1 (by omega)), ev_bind_iff (l1Value_ev m.2.2.2.2.2.1 (by omega)), ev_bind_iff (l1Tid_ev _), ev_ite_iff, ev_some_iff]
  unfold msgB
  by_cases c1 : 1 ≤ m.1 ∧ m.1 ≤ 8 <;> by_cases c2 : 0 ≤ m.2.1 ∧ m.2.1 ≤ 255 <;> by_cases c3 : 0 ≤ m.2.2.1 ∧ m.2.2.1 ≤ 255 <;> by_cases c4 : 0 ≤ m.2.2.2.1 ∧ m.2.2.2.1 ≤ 65535 <;> cases keyB m.2.2.2.2.1 <;> cases valB m.2.2.2.2.2.1 <;> simp [c1, c2, c3, c4]
theorem isMsg_ev (m : MsgT) (h1 : m.2.2.2.2.1.size ≤ 1048576) (h2 : m.2.2.2.2.2.1.size ≤ 1048576) : Ev (fun k => impl_isMsg k m) (msgB m) := by
  refine ev_congr (fun k => impl_isMsg_eq k m) ?_
  simp only [ev_bind_iff (in_ev _ _ _), ev_bind_iff (isKey_ev m.2.2.2.2.1), ev_bind_iff (isValue_ev m.2.2.2.2.2.1 (by omega)), ev_bind_iff (isTid_ev _), ev_ite_iff, ev_some_iff]
  unfold msgB
  by_cases c1 : 1 ≤ m.1 ∧ m.1 ≤ 8 <;> by_cases c2 : 0 ≤ m.2.1 ∧ m.2.1 ≤ 255 <;> by_cases c3 : 0 ≤ m.2.2.1 ∧ m.2.2.1 ≤ 255 <;> by_cases c4 : 0 ≤ m.2.2.2.1 ∧ m.2.2.2.1 ≤ 65535 <;> cases keyB m.2.2.2.2.1 <;> cases valB m.2.2.2.2.2.1 <;> simp [c1, c2, c3, c4]

/-! ### tideq -/
theorem eqTid_ev (x : TidT) : Ev (fun k => laws_eqTid k x x) true := ev_congr (fun k => laws_eqTid_eq k x x) (by simp [ev_some_iff])

/-! ### readmsg -/
/-! words out of bytes -/
theorem or64 (K : IntKind) (x y : Int) : (Go.IntKind.wrap K (Nat.cast (HOr.hOr (BitVec.ofFin (Fin.mk (Int.toNat (HMod.hMod x (18446744073709551616 : Int))) (BitVec.ofInt._proof_1 64 x))) (BitVec.ofFin (Fin.mk (Int.toNat (HMod.hMod y (18446744073709551616 : Int))) (BitVec.ofInt._proof_1 64 y)))).1.1 : Int)) = K.wrap ((BitVec.ofInt 64 x ||| BitVec.ofInt 64 y).toNat : Int) := rfl
theorem or16 (K : IntKind) (x y : Int) : (Go.IntKind.wrap K (Nat.cast (HOr.hOr (BitVec.ofFin (Fin.mk (Int.toNat (HMod.hMod x (65536 : Int))) (BitVec.ofInt._proof_1 16 x))) (BitVec.ofFin (Fin.mk (Int.toNat (HMod.hMod y (65536 : Int))) (BitVec.ofInt._proof_1 16 y)))).1.1 : Int)) = K.wrap ((BitVec.ofInt 16 x ||| BitVec.ofInt 16 y).toNat : Int) := rfl
theorem and64 (K : IntKind) (x y : Int) : (Go.IntKind.wrap K (Nat.cast (HAnd.hAnd (BitVec.ofFin (Fin.mk (Int.toNat (HMod.hMod x (18446744073709551616 : Int))) (BitVec.ofInt._proof_1 64 x))) (BitVec.ofFin (Fin.mk (Int.toNat (HMod.hMod y (18446744073709551616 : Int))) (BitVec.ofInt._proof_1 64 y)))).1.1 : Int)) = K.wrap ((BitVec.ofInt 64 x &&& BitVec.ofInt 64 y).toNat : Int) := rfl
theorem wu64 (n : Int) (h0 : 0 ≤ n) (h1 : n < 18446744073709551616) : IntKind.wrap .u64 n = n := wraps_u64 n h0 (by omega)
theorem wi64 (n : Int) (h0 : 0 ≤ n) (h1 : n < 9223372036854775808) : IntKind.wrap .i64 n = n := by rw [IntKind.wrap_i64]; omega
theorem wu16 (n : Int) (h0 : 0 ≤ n) (h1 : n < 65536) : IntKind.wrap .u16 n = n := by
  simp only [IntKind.wrap, IntKind.signed, IntKind.bits]
  simp
  omega
/-- high bits beside low ones -/
theorem or_hi (w : Nat) (x : Int) (y : Int) (i : Nat) (hx0 : 0 ≤ x) (hx : x * 2 ^ i < 2 ^ w) (hy0 : 0 ≤ y) (hy : y < 2 ^ i) (hiw : i ≤ w) : (((BitVec.ofInt w (x * 2 ^ i) ||| BitVec.ofInt w y).toNat : Nat) : Int) = x * 2 ^ i + y := by
  obtain ⟨a, rfl⟩ := Int.eq_ofNat_of_zero_le hx0
  obtain ⟨b, rfl⟩ := Int.eq_ofNat_of_zero_le hy0
  have ha : a * 2 ^ i < 2 ^ w := by exact_mod_cast hx
  have hb : b < 2 ^ i := by exact_mod_cast hy
  have hb2 : b < 2 ^ w := Nat.lt_of_lt_of_le hb (Nat.pow_le_pow_right (by decide) hiw)
  have e : ((a : Int) * 2 ^ i) = ((a * 2 ^ i : Nat) : Int) := by simp
  rw [e, BitVec.ofInt_natCast, BitVec.ofInt_natCast, BitVec.toNat_or, BitVec.toNat_ofNat, BitVec.toNat_ofNat, Nat.mod_eq_of_lt ha, Nat.mod_eq_of_lt hb2]
  rw [Nat.mul_comm a, ← Nat.two_pow_add_eq_or_of_lt hb a]
  simp
theorem or_lo (w : Nat) (x : Int) (y : Int) (i : Nat) (hx0 : 0 ≤ x) (hx : x * 2 ^ i < 2 ^ w) (hy0 : 0 ≤ y) (hy : y < 2 ^ i) (hiw : i ≤ w) : (((BitVec.ofInt w y ||| BitVec.ofInt w (x * 2 ^ i)).toNat : Nat) : Int) = x * 2 ^ i + y := by
  rw [BitVec.or_comm]
  exact or_hi w x y i hx0 hx hy0 hy hiw
theorem bt_range (s : ByteArray) (i : Int) : 0 ≤ bt s i ∧ bt s i < 256 := by
  unfold bt
  split
  · have := (s[i.toNat]).toNat_lt
    omega
  · omega
theorem rd_byteL (s : ByteArray) (i : Int) : rdT (.int .u8) (byteL s) i = bt s i := by
  unfold rdT bt byteL
  have hs : s.data.toList.length = s.size := by simp
  by_cases h : i.toNat < s.size
  · rw [dif_pos h]
    have h' : i.toNat < s.data.toList.length := by rw [hs]; exact h
    rw [List.getD_eq_getElem?_getD, List.getElem?_map, List.getElem?_eq_getElem h']
    rfl
  · rw [dif_neg h, List.getD_eq_getElem?_getD, List.getElem?_eq_none (by simpa [hs] using h)]
    rfl
theorem rd_drop (s : ByteArray) (n : Nat) (j : Int) (h0 : 0 ≤ j) : rdT (.int .u8) ((byteL s).drop n) j = bt s (n + j) := by
  rw [← rd_byteL]
  unfold rdT
  rw [List.getD_eq_getElem?_getD, List.getD_eq_getElem?_getD, List.getElem?_drop, show ((n : Int) + j).toNat = n + j.toNat by omega]
theorem p8 : (Int.instNatPow.1 2 (Min.min (Int.toNat 8) 64) : Int) = 2 ^ 8 := rfl
theorem p16 : (Int.instNatPow.1 2 (Min.min (Int.toNat 16) 64) : Int) = 2 ^ 16 := rfl
theorem p24 : (Int.instNatPow.1 2 (Min.min (Int.toNat 24) 64) : Int) = 2 ^ 24 := rfl
theorem p32 : (Int.instNatPow.1 2 (Min.min (Int.toNat 32) 64) : Int) = 2 ^ 32 := rfl
theorem p40 : (Int.instNatPow.1 2 (Min.min (Int.toNat 40) 64) : Int) = 2 ^ 40 := rfl
theorem p48 : (Int.instNatPow.1 2 (Min.min (Int.toNat 48) 64) : Int) = 2 ^ 48 := rfl
theorem p56 : (Int.instNatPow.1 2 (Min.min (Int.toNat 56) 64) : Int) = 2 ^ 56 := rfl
theorem p25 : (Int.instNatPow.1 2 (Min.min (Int.toNat 25) 64) : Int) = 2 ^ 25 := rfl
theorem p1 : (Int.instNatPow.1 2 (Min.min (Int.toNat 1) 64) : Int) = 2 := rfl
theorem p816 : (Int.instNatPow.1 2 (Min.min (Int.toNat 8) 16) : Int) = 2 ^ 8 := rfl
theorem orstep (acc b : Int) (i : Nat) (ha0 : 0 ≤ acc) (ha : acc < 2 ^ i) (hb0 : 0 ≤ b) (hb : b < 256) (hi : i ≤ 56) : IntKind.wrap .u64 (((BitVec.ofInt 64 acc ||| BitVec.ofInt 64 (IntKind.wrap .u64 (IntKind.wrap .u64 b * 2 ^ i))).toNat : Nat) : Int) = b * 2 ^ i + acc := by
  have hp : ((2 : Int) ^ i) ≤ 2 ^ 56 := by exact_mod_cast Nat.pow_le_pow_right (show 2 > 0 by omega) hi
  have hp0 : (0 : Int) ≤ 2 ^ i := by exact_mod_cast Nat.zero_le (2 ^ i)
  have h1 : b * 2 ^ i ≤ 255 * 2 ^ i := Int.mul_le_mul_of_nonneg_right (by omega) hp0
  have h2 : 0 ≤ b * 2 ^ i := Int.mul_nonneg hb0 hp0
  have h3 : b * 2 ^ i < 2 ^ 64 := by omega
  rw [wu64 b hb0 (by omega), wu64 _ h2 (by omega), or_lo 64 b acc i hb0 h3 ha0 ha (by omega), wu64 _ (by omega) (by omega)]
def W (s : ByteArray) : Nat → Int
  | 0 => 0
  | n + 1 => W s n * 256 + bt s ((5 + n : Nat) : Int)
theorem W_range (s : ByteArray) : ∀ n, 0 ≤ W s n ∧ W s n < 2 ^ (8 * n)
  | 0 => by simp [W]
  | n + 1 => by
    have ih := W_range s n
    have hb := bt_range s ((5 + n : Nat) : Int)
    have e : (2 : Int) ^ (8 * (n + 1)) = 2 ^ (8 * n) * 256 := by rw [show 8 * (n + 1) = 8 * n + 8 by omega, Int.pow_add]; rfl
    unfold W
    rw [e]
    omega
theorem spec_loop (s : ByteArray) (m : MsgT) (hs : 14 ≤ s.size) (r : MsgT × Int) (H : Ev (fun k => spec_l1Read_h5 k s m (W s 8) 13) r) : Ev (fun k => spec_l1Read_h5 k s m 0 5) r := by
  refine up_ind 8 (fun n => Ev (fun k => spec_l1Read_h5 k s m (W s n) ((5 + n : Nat) : Int)) r) H (fun n hn ih => ?_) 0 (by omega)
  have hw := W_range s n
  have hp : ((2 : Int) ^ (8 * n)) ≤ 2 ^ 56 := by exact_mod_cast Nat.pow_le_pow_right (show 2 > 0 by omega) (show 8 * n ≤ 56 by omega)
  have hb := bt_range s ((5 + n : Nat) : Int)
  have e : IntKind.wrap .u64 (((BitVec.ofInt 64 (IntKind.wrap .u64 (W s n * 2 ^ 8)) ||| BitVec.ofInt 64 (IntKind.wrap .u64 (bt s ((5 + n : Nat) : Int)))).toNat : Nat) : Int) = W s (n + 1) := by
    rw [wu64 (W s n * 2 ^ 8) (by omega) (by omega), wu64 (bt s _) hb.1 (by omega), or_hi 64 (W s n) _ 8 hw.1 (by omega) hb.1 hb.2 (by omega), wu64 _ (by omega) (by omega)]
    rfl
  refine ev_shift ?_
  simp only [spec_l1Read_h5_eq, or64, p8, e, wrap_nat (show 5 + n < 9223372036854775807 by omega), ev_ite_iff, ev_none_iff]
  rw [if_pos (by omega), if_pos (by omega), if_pos (by omega)]
  exact ih
def o64 (x y : Int) : Int := IntKind.wrap .u64 ((BitVec.ofInt 64 x ||| BitVec.ofInt 64 y).toNat : Int)
def s64 (x : Int) (n : Nat) : Int := IntKind.wrap .u64 (IntKind.wrap .u64 x * 2 ^ n)
theorem uint64_clean (k : Nat) (l : List Int) : binary_bigEndian_Uint64 k () l = (if (7 : Int) < (l.length : Int) then if (7 : Int) < (l.length : Int) then if (6 : Int) < (l.length : Int) then if (5 : Int) < (l.length : Int) then if (4 : Int) < (l.length : Int) then if (3 : Int) < (l.length : Int) then if (2 : Int) < (l.length : Int) then if (1 : Int) < (l.length : Int) then if (0 : Int) < (l.length : Int) then
    some (o64 (o64 (o64 (o64 (o64 (o64 (o64 (IntKind.wrap .u64 (rdT (.int .u8) l 7)) (s64 (rdT (.int .u8) l 6) 8)) (s64 (rdT (.int .u8) l 5) 16)) (s64 (rdT (.int .u8) l 4) 24)) (s64 (rdT (.int .u8) l 3) 32)) (s64 (rdT (.int .u8) l 2) 40)) (s64 (rdT (.int .u8) l 1) 48)) (s64 (rdT (.int .u8) l 0) 56))
    else none else none else none else none else none else none else none else none else none) := by kernel_rfl
theorem uint64_ev (s : ByteArray) (hs : 14 ≤ s.size) : Ev (fun k => binary_bigEndian_Uint64 k () ((byteL s).drop 5)) (W s 8) := by
  have hl : ((byteL s).drop 5).length = s.size - 5 := by rw [List.length_drop, byteL_len]
  refine ev_congr (fun k => uint64_clean k _) ?_
  have c0 := bt_range s ((5 : Nat) + 0)
  have c1 := bt_range s ((5 : Nat) + 1)
  have c2 := bt_range s ((5 : Nat) + 2)
  have c3 := bt_range s ((5 : Nat) + 3)
  have c4 := bt_range s ((5 : Nat) + 4)
  have c5 := bt_range s ((5 : Nat) + 5)
  have c6 := bt_range s ((5 : Nat) + 6)
  have c7 := bt_range s ((5 : Nat) + 7)
  simp only [rd_drop s 5 0 (by omega), rd_drop s 5 1 (by omega), rd_drop s 5 2 (by omega), rd_drop s 5 3 (by omega), rd_drop s 5 4 (by omega), rd_drop s 5 5 (by omega), rd_drop s 5 6 (by omega), rd_drop s 5 7 (by omega), hl, ev_ite_iff, ev_none_iff, ev_some_iff]
  rw [if_pos (by omega), if_pos (by omega), if_pos (by omega), if_pos (by omega), if_pos (by omega), if_pos (by omega), if_pos (by omega), if_pos (by omega)]
  try rw [if_pos (by omega)]
  have w : W s 8 = (((((((bt s ((5 : Nat) + 0) * 256 + bt s ((5 : Nat) + 1)) * 256 + bt s ((5 : Nat) + 2)) * 256 + bt s ((5 : Nat) + 3)) * 256 + bt s ((5 : Nat) + 4)) * 256 + bt s ((5 : Nat) + 5)) * 256 + bt s ((5 : Nat) + 6)) * 256 + bt s ((5 : Nat) + 7)) := by
    simp only [W, Int.zero_mul, Int.zero_add]
    rfl
  rw [w]
  generalize bt s ((5 : Nat) + 0) = b0 at c0 ⊢
  generalize bt s ((5 : Nat) + 1) = b1 at c1 ⊢
  generalize bt s ((5 : Nat) + 2) = b2 at c2 ⊢
  generalize bt s ((5 : Nat) + 3) = b3 at c3 ⊢
  generalize bt s ((5 : Nat) + 4) = b4 at c4 ⊢
  generalize bt s ((5 : Nat) + 5) = b5 at c5 ⊢
  generalize bt s ((5 : Nat) + 6) = b6 at c6 ⊢
  generalize bt s ((5 : Nat) + 7) = b7 at c7 ⊢
  unfold o64 s64
  rw [wu64 b7 c7.1 (by omega)]
  rw [orstep b7 b6 8 (by omega) (by omega) c6.1 c6.2 (by omega), orstep _ b5 16 (by omega) (by omega) c5.1 c5.2 (by omega), orstep _ b4 24 (by omega) (by omega) c4.1 c4.2 (by omega), orstep _ b3 32 (by omega) (by omega) c3.1 c3.2 (by omega), orstep _ b2 40 (by omega) (by omega) c2.1 c2.2 (by omega), orstep _ b1 48 (by omega) (by omega) c1.1 c1.2 (by omega), orstep _ b0 56 (by omega) (by omega) c0.1 c0.2 (by omega)]
  omega

/-! ### readmsg2 -/
theorem fdiv25 (w : Int) (h0 : 0 ≤ w) : Int.fdiv w (2 ^ 25) = w / 33554432 := by
  rw [Int.fdiv_eq_ediv_of_nonneg w (by omega)]
  rfl
def seqOf (w : Int) : Int := IntKind.wrap .i64 (IntKind.wrap .u64 ((BitVec.ofInt 64 (Int.fdiv w 2) &&& BitVec.ofInt 64 16777215).toNat : Int))
theorem seqOf_def (w : Int) : IntKind.wrap .i64 (IntKind.wrap .u64 ((BitVec.ofInt 64 (Int.fdiv w 2) &&& BitVec.ofInt 64 16777215).toNat : Int)) = seqOf w := rfl
def lockOf (w : Int) : Bool := decide (IntKind.wrap .u64 ((BitVec.ofInt 64 w &&& BitVec.ofInt 64 1).toNat : Int) = 1)
theorem lockOf_def (w : Int) : decide (IntKind.wrap .u64 ((BitVec.ofInt 64 w &&& BitVec.ofInt 64 1).toNat : Int) = 1) = lockOf w := rfl
theorem seq_range (w : Int) : 0 ≤ seqOf w ∧ seqOf w ≤ 16777215 := by
  have h : (BitVec.ofInt 64 (Int.fdiv w 2) &&& BitVec.ofInt 64 16777215).toNat ≤ 16777215 := by
    rw [BitVec.toNat_and]
    refine Nat.le_trans Nat.and_le_right ?_
    decide
  unfold seqOf
  rw [wu64 _ (by omega) (by omega), wi64 _ (by omega) (by omega)]
  omega
theorem unpack_ev (w : Int) (h0 : 0 ≤ w) (h1 : w < 18446744073709551616) : ∃ r : TidT × Bool, Ev (fun k => spec_UnpackTid k w) r ∧ Ev (fun k => impl_UnpackTid k w) r := by
  have hs := seq_range w
  have he : IntKind.wrap .i64 (Int.fdiv w (2 ^ 25)) = w / 33554432 := by rw [fdiv25 w h0]; exact wi64 _ (by omega) (by omega)
  by_cases hw : w < 35184372088832
  · refine ⟨((w / 33554432, (seqOf w, lockOf w)), true), ev_congr (fun k => spec_UnpackTid_eq k w) ?_, ev_congr (fun k => impl_UnpackTid_eq k w) ?_⟩
    rotate_left
    · simp only [and64, p25, p1, he, seqOf_def, lockOf_def]
      exact ev_if_neg (by omega) (ev_some _)
    · simp only [and64, p25, p1, he, seqOf_def, lockOf_def]
      refine ev_bind (l1Tid_ev _) (ev_if_neg ?_ (ev_some _))
      unfold tidB
      simp only [Bool.not_eq_true', Bool.not_eq_false, Bool.and_eq_true, decide_eq_true_eq]
      omega
  · refine ⟨((0, (0, false)), false), ev_congr (fun k => spec_UnpackTid_eq k w) ?_, ev_congr (fun k => impl_UnpackTid_eq k w) (ev_if_pos (by omega) (ev_some _))⟩
    simp only [and64, p25, p1, he, seqOf_def, lockOf_def]
    refine ev_bind (l1Tid_ev _) (ev_if_pos ?_ (ev_some _))
    unfold tidB
    simp only [Bool.not_eq_true', Bool.and_eq_false_iff, decide_eq_false_iff_not]
    omega
theorem uint16_ev (s : ByteArray) (hs : 14 ≤ s.size) : Ev (fun k => binary_bigEndian_Uint16 k () ((byteL s).drop 3)) (bt s 3 * 256 + bt s 4) := by
  have hl : ((byteL s).drop 3).length = s.size - 3 := by rw [List.length_drop, byteL_len]
  refine ev_congr (fun k => binary_bigEndian_Uint16_eq k () _) ?_
  have c0 := bt_range s ((3 : Nat) + 0)
  have c1 := bt_range s ((3 : Nat) + 1)
  simp only [or16, p816, rd_drop s 3 0 (by omega), rd_drop s 3 1 (by omega), hl, ev_ite_iff, ev_none_iff, ev_some_iff]
  rw [if_pos (by omega), if_pos (by omega)]
  try rw [if_pos (by omega)]
  have w : bt s 3 * 256 + bt s 4 = bt s ((3 : Nat) + 0) * 2 ^ 8 + bt s ((3 : Nat) + 1) := rfl
  rw [w]
  generalize bt s ((3 : Nat) + 0) = b0 at c0 ⊢
  generalize bt s ((3 : Nat) + 1) = b1 at c1 ⊢
  rw [wu16 b1 c1.1 (by omega), wu16 b0 c0.1 (by omega), wu16 (b0 * 2 ^ 8) (by omega) (by omega), or_lo 16 b0 b1 8 c0.1 (by omega) c1.1 (by omega) (by omega), wu16 _ (by omega) (by omega)]
theorem txn_ok (s : ByteArray) : IntKind.wrap .i64 (((BitVec.ofInt 64 (IntKind.wrap .i64 (IntKind.wrap .i64 (bt s 3) * 2 ^ 8)) ||| BitVec.ofInt 64 (IntKind.wrap .i64 (bt s 4))).toNat : Nat) : Int) = bt s 3 * 256 + bt s 4 := by
  have c0 := bt_range s 3
  have c1 := bt_range s 4
  rw [wi64 (bt s 3) c0.1 (by omega), wi64 (bt s 4) c1.1 (by omega), wi64 (bt s 3 * 2 ^ 8) (by omega) (by omega), or_hi 64 _ _ 8 c0.1 (by omega) c1.1 (by omega) (by omega), wi64 _ (by omega) (by omega)]
  rfl
abbrev zMsg : MsgT := ((0 : Int), ((0 : Int), ((0 : Int), ((0 : Int), ((ByteArray.mk (Array.mk ([]))), ((ByteArray.mk (Array.mk ([]))), ((0 : Int), ((0 : Int), false))))))))
theorem ext_size (s : ByteArray) (hs : s.size ≤ 1048576) (i j : Nat) : (s.extract i j).size ≤ 1048576 := by
  rw [ByteArray.size_extract]
  omega
theorem read_ev (s : ByteArray) (hs : s.size ≤ 1048576) : ∃ r : MsgT × Int, Ev (fun k => spec_l1Read k s) r ∧ Ev (fun k => impl_readMsg k s) r ∧ 0 ≤ r.2 ∧ r.2 ≤ s.size ∧ (r.2 = 0 → r.1 = zMsg) ∧ (r.2 ≠ 0 → 15 ≤ r.2) := by
  have hbl : (byteL s).length = s.size := byteL_len s
  by_cases h15 : s.size < 15
  · refine ⟨(zMsg, 0), ev_congr (fun k => spec_l1Read_eq k s) ?_, ev_congr (fun k => impl_readMsg_eq k s) (ev_if_pos (by omega) (ev_some _)), by simp, by simp, fun _ => rfl, fun h => absurd rfl h⟩
    by_cases h14 : s.size < 14
    · exact ev_if_pos (by omega) (ev_some _)
    · refine ev_if_neg (by omega) (spec_loop s zMsg (by omega) _ ?_)
      have hw := W_range s 8
      obtain ⟨u, u1, u2⟩ := unpack_ev (W s 8) hw.1 (by omega)
      have c := bt_range s 13
      have hK : wrap64 (14 + IntKind.wrap .i64 (bt s 13)) = ((14 + (bt s 13).toNat : Nat) : Int) := by rw [wi64 _ c.1 (by omega), wrap_of (by omega) (by omega)]; omega
      refine ev_shift ?_
      simp only [spec_l1Read_h5_eq, hK, ev_bind_iff u1, ev_ite_iff, ev_none_iff, ev_some_iff]
      rw [if_neg (by omega), if_pos (by omega)]
      by_cases hu : u.2 = true
      · rw [if_neg (by simp [hu]), if_pos (by omega)]; trivial
      · rw [if_pos (by simpa using hu)]; trivial
  have c := bt_range s 13
  have hw := W_range s 8
  obtain ⟨u, u1, u2⟩ := unpack_ev (W s 8) hw.1 (by omega)
  have hK : wrap64 (14 + IntKind.wrap .i64 (bt s 13)) = ((14 + (bt s 13).toNat : Nat) : Int) := by rw [wi64 _ c.1 (by omega), wrap_of (by omega) (by omega)]; omega
  generalize hKK : 14 + (bt s 13).toNat = K at hK
  have hK14 : 14 ≤ K := by omega
  have d := bt_range s (K : Int)
  have hK1 : wrap64 ((K : Int) + 1) = ((K + 1 : Nat) : Int) := wrap_nat (by omega)
  have hE : wrap64 (((K + 1 : Nat) : Int) + IntKind.wrap .i64 (bt s (K : Int))) = ((K + 1 + (bt s (K : Int)).toNat : Nat) : Int) := by rw [wi64 _ d.1 (by omega), wrap_of (by omega) (by omega)]; omega
  generalize hEE : K + 1 + (bt s (K : Int)).toNat = E at hE
  have hE1 : K + 1 ≤ E := by omega
  have ht5 : (List.drop (Int.toNat 5) (List.take (Int.toNat (s.size : Int)) (byteL s))) = (byteL s).drop 5 := by rw [Int.toNat_natCast, ← hbl, List.take_length]; rfl
  have ht3 : (List.drop (Int.toNat 3) (List.take (Int.toNat (s.size : Int)) (byteL s))) = (byteL s).drop 3 := by rw [Int.toNat_natCast, ← hbl, List.take_length]; rfl
  have ht5' : (List.drop (Int.toNat 5) (List.take s.size (byteL s))) = (byteL s).drop 5 := ht5
  have ht3' : (List.drop (Int.toNat 3) (List.take s.size (byteL s))) = (byteL s).drop 3 := ht3
  have b0 := bt_range s 0
  have b1 := bt_range s 1
  have b2 := bt_range s 2
  have b3 := bt_range s 3
  have b4 := bt_range s 4
  have e0 := wi64 (bt s 0) b0.1 (by omega)
  have e1 := wi64 (bt s 1) b1.1 (by omega)
  have e2 := wi64 (bt s 2) b2.1 (by omega)
  have et := wi64 (bt s 3 * 256 + bt s 4) (by omega) (by omega)
  have n14 : (14 : Int).toNat = 14 := rfl
  have spec : ∀ r, Ev (fun k => spec_l1Read_h5 k s zMsg (W s 8) 13) r → Ev (fun k => spec_l1Read k s) r := fun r H => ev_congr (fun k => spec_l1Read_eq k s) (ev_if_neg (by omega) (spec_loop s zMsg (by omega) r H))
  by_cases hk : K < s.size
  · by_cases he : E ≤ s.size
    · cases hu : u.2 with
      | false =>
        refine ⟨(zMsg, 0), spec _ (ev_shift ?_), ev_congr (fun k => impl_readMsg_eq k s) ?_, by simp, by simp, fun _ => rfl, fun h => absurd rfl h⟩
        · simp only [spec_l1Read_h5_eq, ev_bind_iff u1, ev_ite_iff, ev_none_iff, ev_some_iff]
          rw [if_neg (by omega), if_pos (by omega), if_pos (by simp [hu])]; trivial
        · simp only [rd_byteL, byteL_len, hK, hK1, hE, ht5, ht3, ev_bind_iff (uint64_ev s (by omega)), ev_bind_iff (uint16_ev s (by omega)), ev_bind_iff u2, ev_ite_iff, ev_none_iff, ev_some_iff]
          have q1 : (0 : Int) ≤ (K : Int) := by omega
          have q2 : (K : Int) < (s.size : Int) := by omega
          have q3 : (0 : Int) ≤ (E : Int) := by omega
          have q4 : (0 : Int) ≤ ((K + 1 : Nat) : Int) := by omega
          have q5 : ¬ (s.size : Int) < (E : Int) := by omega
          have q6 : (E : Int) ≤ (s.size : Int) := by omega
          have q7 : ((K + 1 : Nat) : Int) ≤ (E : Int) := by omega
          have q8 : (14 : Int) ≤ (K : Int) := by omega
          have q9 : (K : Int) ≤ (s.size : Int) := by omega
          have p0 : (0 : Int) < (s.size : Int) := by omega
          have p1 : (1 : Int) < (s.size : Int) := by omega
          have p2 : (2 : Int) < (s.size : Int) := by omega
          have p3 : (3 : Int) ≤ (s.size : Int) := by omega
          have p5 : (5 : Int) ≤ (s.size : Int) := by omega
          have p13 : (13 : Int) < (s.size : Int) := by omega
          have p15 : ¬ (s.size : Int) < 15 := by omega
          have p16 : ¬ (s.size : Int) ≤ (K : Int) := by omega
          simp only [if_pos q1, if_pos q2, if_pos q3, if_pos q4, if_neg q5, if_pos q6, if_pos q7, if_pos q8, if_pos q9, if_pos p0, if_pos p1, if_pos p2, if_pos p3, if_pos p5, if_pos p13, if_neg p15, if_neg p16]
          rw [if_pos (by simp [hu])]; trivial
      | true =>
        generalize hM : ((bt s 0, bt s 1, bt s 2, bt s 3 * 256 + bt s 4, s.extract 14 K, s.extract (K + 1) E, u.1) : MsgT) = M
        have z1 : M.2.2.2.2.1.size ≤ 1048576 := by rw [← hM]; exact ext_size s hs _ _
        have z2 : M.2.2.2.2.2.1.size ≤ 1048576 := by rw [← hM]; exact ext_size s hs _ _
        have g1 := specMsg_ev M z1 z2
        have g2 := isMsg_ev M z1 z2
        refine ⟨if msgB M = true then (M, (E : Int)) else (zMsg, 0), spec _ (ev_shift ?_), ev_congr (fun k => impl_readMsg_eq k s) ?_, ?_⟩
        · simp only [spec_l1Read_h5_eq, or64, p8, txn_ok, hK, hK1, hE, e0, e1, e2, n14, Int.toNat_natCast, ev_bind_iff u1, ev_ite_iff, ev_none_iff, ev_some_iff]
          have q1 : (0 : Int) ≤ (K : Int) := by omega
          have q2 : (K : Int) < (s.size : Int) := by omega
          have q3 : (0 : Int) ≤ (E : Int) := by omega
          have q4 : (0 : Int) ≤ ((K + 1 : Nat) : Int) := by omega
          have q5 : ¬ (s.size : Int) < (E : Int) := by omega
          have q6 : (E : Int) ≤ (s.size : Int) := by omega
          have q7 : ((K + 1 : Nat) : Int) ≤ (E : Int) := by omega
          have q8 : (14 : Int) ≤ (K : Int) := by omega
          have q9 : (K : Int) ≤ (s.size : Int) := by omega
          have p0 : (0 : Int) < (s.size : Int) := by omega
          have p1 : (1 : Int) < (s.size : Int) := by omega
          have p2 : (2 : Int) < (s.size : Int) := by omega
          have p3 : (3 : Int) < (s.size : Int) := by omega
          have p4 : (4 : Int) < (s.size : Int) := by omega
          have p13 : (13 : Int) < (s.size : Int) := by omega
          have p16 : ¬ (s.size : Int) ≤ (K : Int) := by omega
          have pn : ¬ (13 : Int) < 13 := by omega
          have pu : ¬ (!u.2) = true := by simp [hu]
          simp only [if_neg pn, if_neg pu, if_pos q1, if_pos q2, if_pos q3, if_pos q4, if_neg q5, if_pos q6, if_pos q7, if_pos q8, if_pos q9, if_pos p0, if_pos p1, if_pos p2, if_pos p3, if_pos p4, if_pos p13, if_neg p16, hM, ev_bind_iff g1, ev_ite_iff, ev_some_iff]
          by_cases hb : msgB M = true
          · rw [if_neg (by simp [hb]), if_pos hb]
          · rw [if_pos (by simp [hb]), if_neg hb]
        · simp only [rd_byteL, byteL_len, et, hK, hK1, hE, ht5', ht3', e0, e1, e2, n14, Int.toNat_natCast, ev_bind_iff (uint64_ev s (by omega)), ev_bind_iff (uint16_ev s (by omega)), ev_bind_iff u2, ev_ite_iff, ev_none_iff, ev_some_iff]
          have q1 : (0 : Int) ≤ (K : Int) := by omega
          have q2 : (K : Int) < (s.size : Int) := by omega
          have q3 : (0 : Int) ≤ (E : Int) := by omega
          have q4 : (0 : Int) ≤ ((K + 1 : Nat) : Int) := by omega
          have q5 : ¬ (s.size : Int) < (E : Int) := by omega
          have q6 : (E : Int) ≤ (s.size : Int) := by omega
          have q7 : ((K + 1 : Nat) : Int) ≤ (E : Int) := by omega
          have q8 : (14 : Int) ≤ (K : Int) := by omega
          have q9 : (K : Int) ≤ (s.size : Int) := by omega
          have p0 : (0 : Int) < (s.size : Int) := by omega
          have p1 : (1 : Int) < (s.size : Int) := by omega
          have p2 : (2 : Int) < (s.size : Int) := by omega
          have p3 : (3 : Int) ≤ (s.size : Int) := by omega
          have p5 : (5 : Int) ≤ (s.size : Int) := by omega
          have p13 : (13 : Int) < (s.size : Int) := by omega
          have p15 : ¬ (s.size : Int) < 15 := by omega
          have p16 : ¬ (s.size : Int) ≤ (K : Int) := by omega
          have pu : ¬ (!u.2) = true := by simp [hu]
          simp only [if_neg pu, if_pos q1, if_pos q2, if_pos q3, if_pos q4, if_neg q5, if_pos q6, if_pos q7, if_pos q8, if_pos q9, if_pos p0, if_pos p1, if_pos p2, if_pos p3, if_pos p5, if_pos p13, if_neg p15, if_neg p16, hM, ev_bind_iff g2, ev_ite_iff, ev_some_iff]
          by_cases hb : msgB M = true
          · rw [if_neg (by simp [hb]), if_pos hb]
          · rw [if_pos (by simp [hb]), if_neg hb]
        · by_cases hb : msgB M = true
          · rw [if_pos hb]
            exact ⟨by simp, by simp only; omega, fun h => by simp only at h; omega, fun _ => by simp only; omega⟩
          · rw [if_neg hb]
            exact ⟨by simp, by simp, fun _ => rfl, fun h => absurd rfl h⟩
    · refine ⟨(zMsg, 0), spec _ (ev_shift ?_), ev_congr (fun k => impl_readMsg_eq k s) ?_, by simp, by simp, fun _ => rfl, fun h => absurd rfl h⟩
      · simp only [spec_l1Read_h5_eq, hK, hK1, hE, ev_bind_iff u1, ev_ite_iff, ev_none_iff, ev_some_iff]
        rw [if_neg (by omega), if_pos (by omega), if_neg (show ¬ (s.size : Int) ≤ (K : Int) by omega), if_pos (show (0 : Int) ≤ (K : Int) by omega), if_pos (show (K : Int) < (s.size : Int) by omega), if_pos (show (s.size : Int) < (E : Int) by omega)]
        exact ite_self _ ▸ trivial
      · simp only [rd_byteL, byteL_len, hK, hK1, hE, ev_ite_iff, ev_none_iff, ev_some_iff]
        rw [if_neg (by omega), if_pos (by omega), if_neg (show ¬ (s.size : Int) ≤ (K : Int) by omega), if_pos (show (0 : Int) ≤ (K : Int) by omega), if_pos (show (K : Int) < (s.size : Int) by omega), if_pos (show (s.size : Int) < (E : Int) by omega)]; trivial
  · refine ⟨(zMsg, 0), spec _ (ev_shift ?_), ev_congr (fun k => impl_readMsg_eq k s) ?_, by simp, by simp, fun _ => rfl, fun h => absurd rfl h⟩
    · simp only [spec_l1Read_h5_eq, hK, hK1, hE, ev_bind_iff u1, ev_ite_iff, ev_none_iff, ev_some_iff]
      rw [if_neg (by omega), if_pos (by omega), if_pos (show (s.size : Int) ≤ (K : Int) by omega)]
      exact ite_self _ ▸ trivial
    · simp only [rd_byteL, byteL_len, hK, hK1, hE, ev_ite_iff, ev_none_iff, ev_some_iff]
      rw [if_neg (by omega), if_pos (by omega), if_pos (show (s.size : Int) ≤ (K : Int) by omega)]; trivial
theorem eqMsg_ev (x : MsgT) : Ev (fun k => laws_eqMsg k x x) true := ev_congr (fun k => laws_eqMsg_eq k x x) (ev_if_neg (by simp) (ev_if_neg (by simp) (ev_if_neg (by simp) (ev_if_neg (by simp) (ev_if_neg (by simp) (ev_if_neg (by simp) (ev_bind (eqTid_ev _) (ev_if_neg (by simp) (ev_some _)))))))))

/-! ### mtext -/
theorem wrap_i64 {x : Int} (h0 : -9223372036854775808 ≤ x) (h1 : x ≤ 9223372036854775807) : IntKind.wrap .i64 x = x := by
  rw [← wrapK_eq]; unfold wrapK; rw [if_pos rfl]; exact wrap_of h0 h1
theorem catS_size0 (a b : ByteArray) : (catS a b).size = a.size + b.size := by
  show (catS a b).data.size = a.data.size + b.data.size
  simp [catS]
theorem mt_ex : ∀ (n : Nat) (acc : ByteArray), acc.size + n ≤ 1099511627776 → ∃ r, Ev (fun k => laws_markText_h4 k (n : Int) acc) r := by
  intro n
  induction n using Nat.strongRecOn with
  | ind n ih =>
    intro acc ha
    by_cases h0 : n = 0
    · subst h0
      refine ⟨catS (ByteArray.mk (Array.mk (List.cons 109 []))) acc, ev_last fun k => ?_⟩
      rw [laws_markText_h4_eq, if_neg (by omega), if_pos (by have : (ByteArray.mk (Array.mk (List.cons 109 []))).size = 1 := rfl; omega)]
    · have hd : Int.tdiv (n : Int) 10 = ((n / 10 : Nat) : Int) := by rw [Int.tdiv_eq_ediv_of_nonneg (by omega)]; omega
      obtain ⟨r, hr⟩ := ih (n / 10) (by omega) (catS (bytesOf [IntKind.wrap .u8 (wrap64 (48 + Int.tmod (n : Int) 10))]) acc) (by
        rw [catS_size0]
        have : (bytesOf [IntKind.wrap .u8 (wrap64 (48 + Int.tmod (n : Int) 10))]).size = 1 := rfl
        omega)
      refine ⟨r, ev_shift ?_⟩
      simp only [laws_markText_h4_eq, ev_ite_iff, hd, wrap_i64 (x := ((n / 10 : Nat) : Int)) (by omega) (by omega)]
      have : (bytesOf [IntKind.wrap .u8 (wrap64 (48 + Int.tmod (n : Int) 10))]).size = 1 := rfl
      rw [if_pos (by omega), if_pos (by omega)]
      exact hr
theorem mark_ex (n : Int) (hn : n ≤ 1073741824) : ∃ r, Ev (fun k => laws_markText k n) r := by
  by_cases h : n ≤ 0
  · exact ⟨_, ev_congr (fun k => laws_markText_eq k n) (ev_if_pos h (ev_some _))⟩
  · obtain ⟨r, hr⟩ := mt_ex n.toNat (ByteArray.mk (Array.mk [])) (by have : (ByteArray.mk (Array.mk [])).size = 0 := rfl; omega)
    refine ⟨r, ev_congr (fun k => laws_markText_eq k n) (ev_if_neg h ?_)⟩
    rw [show ((n.toNat : Nat) : Int) = n by omega] at hr
    exact hr
open Classical in
noncomputable def mtx (n : Int) : ByteArray := if h : ∃ r, Ev (fun k => laws_markText k n) r then Classical.choose h else ByteArray.mk (Array.mk [])
theorem mtx_ev (n : Int) (hn : n ≤ 1073741824) : Ev (fun k => laws_markText k n) (mtx n) := by
  have h := mark_ex n hn
  unfold mtx
  rw [dif_pos h]
  exact Classical.choose_spec h

/-! ### markmsg -/
noncomputable def emMsg (m : Int) : MsgT := (m, m + 1, m + 2, m + 3, mtx (m + 4), mtx (m + 5), m + 6, m + 7, decide (Int.tmod (m + 8) 3 = 0))
theorem upMsg {xs : List MsgT} {n : Nat} {x : MsgT} (hx : xs[n]? = some x) (v0 v1 v2 v3 : Int) (v4 v5 : ByteArray) (v6 v7 : Int) (v8 : Bool) :
    upAt MsgK [6, 2] .bool v8 (upAt MsgK [6, 1] (.int .i64) v7 (upAt MsgK [6, 0] (.int .i64) v6 (upAt MsgK [5] .str v5 (upAt MsgK [4] .str v4 (upAt MsgK [3] (.int .i64) v3 (upAt MsgK [2] (.int .i64) v2 (upAt MsgK [1] (.int .i64) v1 (upAt MsgK [0] (.int .i64) v0 xs (n : Int)) (n : Int)) (n : Int)) (n : Int)) (n : Int)) (n : Int)) (n : Int)) (n : Int)) (n : Int)
      = xs.set n (v0, v1, v2, v3, v4, v5, v6, v7, v8) := by
  have hn : n < xs.length := (List.getElem?_eq_some_iff.1 hx).1
  rw [upAt_get (e := MsgK) (k := .int .i64) (w := (v0, x.2)) hx rfl, upAt_set (e := MsgK) (k := .int .i64) (w := (v0, v1, x.2.2)) hn rfl, upAt_set (e := MsgK) (k := .int .i64) (w := (v0, v1, v2, x.2.2.2)) hn rfl, upAt_set (e := MsgK) (k := .int .i64) (w := (v0, v1, v2, v3, x.2.2.2.2)) hn rfl, upAt_set (e := MsgK) (k := .str) (w := (v0, v1, v2, v3, v4, x.2.2.2.2.2)) hn rfl, upAt_set (e := MsgK) (k := .str) (w := (v0, v1, v2, v3, v4, v5, x.2.2.2.2.2.2)) hn rfl, upAt_set (e := MsgK) (k := .int .i64) (w := (v0, v1, v2, v3, v4, v5, v6, x.2.2.2.2.2.2.2)) hn rfl, upAt_set (e := MsgK) (k := .int .i64) (w := (v0, v1, v2, v3, v4, v5, v6, v7, x.2.2.2.2.2.2.2.2)) hn rfl, upAt_set (e := MsgK) (k := .bool) (w := (v0, v1, v2, v3, v4, v5, v6, v7, v8)) hn rfl]
theorem upLenMsg (p : List Nat) (k : Kind) (y : k.T) (l : List MsgT) (i : Int) : @List.length MsgT (upAt MsgK p k y l i) = @List.length MsgT l := upAt_len (e := MsgK)
theorem incs (c : Int) (h0 : 0 ≤ c) (h1 : c ≤ 1073741824) : wrap64 (c + 1) = c + 1 ∧ wrap64 (c + 1 + 1) = c + 2 ∧ wrap64 (c + 2 + 1) = c + 3 ∧ wrap64 (c + 3 + 1) = c + 4 ∧ wrap64 (c + 4 + 1) = c + 5 ∧ wrap64 (c + 5 + 1) = c + 6 ∧ wrap64 (c + 6 + 1) = c + 7 ∧ wrap64 (c + 7 + 1) = c + 8 ∧ wrap64 (c + 8 + 1) = c + 9 := by
  refine ⟨?_, ?_, ?_, ?_, ?_, ?_, ?_, ?_, ?_⟩ <;> (rw [wrap_of (by omega) (by omega)]; try omega)
theorem markMsgS_ev (l : List MsgT) (m : Int) (h0 : 0 ≤ m) (hm : m + 9 * l.length ≤ 1073741824) : Ev (fun k => laws_markMsgS k l m) (mkList emMsg m 9 l.length, m + 9 * (l.length : Int)) := by
  refine ev_congr (fun k => laws_markMsgS_eq k l m) ?_
  refine mark_loop (fun k l c i => laws_markMsgS_h2 k l c i) emMsg m 9 l.length (fun k xs c hx => ?_) (fun n xs r hn hx H => ?_) l rfl
  · rw [laws_markMsgS_h2_eq, if_neg (by omega)]
  · obtain ⟨e1, e2, e3, e4, e5, e6, e7, e8, e9⟩ := incs (m + 9 * (n : Int)) (by omega) (by omega)
    have hnx : n < xs.length := by omega
    have hg : xs[n]? = some xs[n] := List.getElem?_eq_getElem hnx
    generalize xs[n] = x at hg
    have d1 : (n : Int) < (l.length : Int) := by omega
    have d2 : (n : Int) < (xs.length : Int) := by omega
    have d3 : (0 : Int) ≤ (n : Int) := by omega
    have e10 : m + 9 * (n : Int) + 9 = m + 9 * ((n + 1 : Nat) : Int) := by omega
    refine ev_shift ?_
    simp only [laws_markMsgS_h2_eq, ev_ite_iff, e1, e2, e3, e4, e5, e6, e7, e8, e9, wrap_nat (show n < 9223372036854775807 by omega), upLenMsg, if_pos d2, if_pos d3, ev_bind_iff (mtx_ev (m + 9 * (n : Int) + 4) (by omega)), ev_bind_iff (mtx_ev (m + 9 * (n : Int) + 5) (by omega)), upMsg hg, e10]
    exact H
theorem heldMsgS_ev (m : Int) (N : Nat) (h0 : 0 ≤ m) (hm : m + 9 * N ≤ 1073741824) : Ev (fun k => laws_heldMsgS k (mkList emMsg m 9 N) m) (m + 9 * (N : Int)) := by
  refine ev_congr (fun k => laws_heldMsgS_eq k _ m) ?_
  have hl := mkList_len emMsg m 9 N
  refine held_loop (fun k c i => laws_heldMsgS_h2 k (mkList emMsg m 9 N) c i) emMsg m 9 N (fun k c => ?_) (fun n r hn hx H => ?_)
  · rw [laws_heldMsgS_h2_eq, if_neg (by omega)]
  · obtain ⟨e1, e2, e3, e4, e5, e6, e7, e8, e9⟩ := incs (m + 9 * (n : Int)) (by omega) (by omega)
    have d1 : (n : Int) < ((mkList emMsg m 9 N).length : Int) := by omega
    have d3 : (0 : Int) ≤ (n : Int) := by omega
    have e10 : m + 9 * (n : Int) + 9 = m + 9 * ((n + 1 : Nat) : Int) := by omega
    refine ev_shift ?_
    simp only [laws_heldMsgS_h2_eq, ev_ite_iff, ev_some_iff, ev_none_iff, e1, e2, e3, e4, e5, e6, e7, e8, e9, wrap_nat (show n < 9223372036854775807 by omega), rdT_get (e := MsgK) hx, if_pos d1, if_pos d3, ev_bind_iff (mtx_ev (m + 9 * (n : Int) + 4) (by omega)), ev_bind_iff (mtx_ev (m + 9 * (n : Int) + 5) (by omega)), emMsg, e10]
    simpa using H

/-! ### readmsgs -/
theorem eqMsgS_ev (l) (hl : l.length ≤ 140737488355328) : Ev (fun k => laws_eqMsgS k l l) true := by
  refine ev_congr (fun k => laws_eqMsgS_eq k l l) ?_
  simp only [ev_ite_iff]
  rw [if_neg (by simp)]
  exact eq_row (l := l) (fun k a b i => laws_eqMsgS_h4_eq k a b i) (fun x _ => eqMsg_ev x) (by omega)
theorem size_zero {s : ByteArray} : s = ByteArray.mk (Array.mk []) ↔ s.size = 0 := by
  constructor
  · intro h; subst h; rfl
  · intro h
    apply ByteArray.ext
    apply Array.toList_inj.1
    have : s.data.toList.length = 0 := by simpa using h
    exact List.length_eq_zero_iff.1 this
theorem msgs_ev : ∀ (N : Nat) (s : ByteArray) (out : List MsgT), s.size ≤ N → s.size ≤ 1048576 → out.length ≤ 60 → ∃ r : List MsgT × Bool, Ev (fun k => spec_ReadMsgs_h2 k s out) r ∧ Ev (fun k => impl_ReadMsgs_h2 k s out) r ∧ r.1.length ≤ 60 := by
  intro N
  induction N with
  | zero =>
    intro s out h _ ho
    have h0 : s.size = 0 := by omega
    exact ⟨(out, true), ev_last fun k => by rw [spec_ReadMsgs_h2_eq, if_neg (by omega)], ev_last fun k => by rw [impl_ReadMsgs_h2_eq, if_neg (by simpa using size_zero.2 h0)], ho⟩
  | succ N ih =>
    intro s out h hs ho
    by_cases h0 : s.size = 0
    · exact ⟨(out, true), ev_last fun k => by rw [spec_ReadMsgs_h2_eq, if_neg (by omega)], ev_last fun k => by rw [impl_ReadMsgs_h2_eq, if_neg (by simpa using size_zero.2 h0)], ho⟩
    · obtain ⟨r, r1, r2, q0, q1, q2, q3⟩ := read_ev s hs
      have hne : ¬ s = ByteArray.mk (Array.mk []) := fun e => h0 (size_zero.1 e)
      by_cases hr : r.2 = 0
      · refine ⟨([], false), ev_shift ?_, ev_shift ?_, by simp⟩
        · simp only [spec_ReadMsgs_h2_eq, ev_bind_iff r1, ev_ite_iff, ev_some_iff]
          rw [if_pos (by omega), if_pos hr]; trivial
        · simp only [impl_ReadMsgs_h2_eq, ev_bind_iff r2, ev_ite_iff, ev_some_iff]
          rw [if_pos hne, if_pos hr]; trivial
      · by_cases h60 : out.length = 60
        · refine ⟨([], false), ev_shift ?_, ev_shift ?_, by simp⟩
          · simp only [spec_ReadMsgs_h2_eq, ev_bind_iff r1, ev_ite_iff, ev_some_iff]
            rw [if_pos (by omega), if_neg hr, if_pos (by omega)]; trivial
          · simp only [impl_ReadMsgs_h2_eq, ev_bind_iff r2, ev_ite_iff, ev_some_iff]
            rw [if_pos hne, if_neg hr, if_pos (by omega)]; trivial
        · have h15 := q3 hr
          have hap : out.length + (List.cons r.1 ([] : List MsgT)).length ≤ 1599289640401 := by simp only [List.length_cons, List.length_nil]; omega
          have hz : (s.extract (Int.toNat r.2) (Int.toNat (s.size : Int))).size ≤ N := by rw [ByteArray.size_extract]; omega
          obtain ⟨t, t1, t2, t3⟩ := ih _ (out ++ [r.1]) hz (ext_size s hs _ _) (by simp; omega)
          refine ⟨t, ev_shift ?_, ev_shift ?_, t3⟩
          · simp only [spec_ReadMsgs_h2_eq, ev_bind_iff r1, ev_ite_iff, ev_some_iff, ev_none_iff]
            rw [if_pos (by omega), if_neg hr, if_neg (by omega), if_pos hap, if_pos q0, if_pos q1]
            exact t1
          · simp only [impl_ReadMsgs_h2_eq, ev_bind_iff r2, ev_ite_iff, ev_some_iff, ev_none_iff]
            rw [if_pos hne, if_neg hr, if_neg (by omega), if_pos hap, if_pos q0, if_pos q1]
            exact t2
theorem law (a0 : ByteArray) (h0 : okT .str a0) : ∃ k, laws_FnExactReadMsgs k a0 = some true := by
  apply ev_fuel
  refine ev_congr (fun k => laws_FnExactReadMsgs_eq k a0) ?_
  by_cases hl : 1048576 < a0.size
  · exact ev_if_pos (by omega) (ev_some _)
  refine ev_if_neg (by omega) ?_
  obtain ⟨r, b1, b2, hr⟩ := msgs_ev a0.size a0 [] (Nat.le_refl _) (by omega) (by simp)
  have s1 := ev_congr (fun k => spec_ReadMsgs_eq k a0) b1
  have s2 := ev_congr (fun k => impl_ReadMsgs_eq k a0) b2
  have mk := markMsgS_ev r.1 1 (by omega) (by omega)
  have hd := heldMsgS_ev 1 r.1.length (by omega) (by omega)
  have eq := eqMsgS_ev r.1 (by omega)
  exact ev_bind s1 (ev_bind s2 (ev_bind eq (ev_if_neg (by simp) (ev_if_neg (by simp) (ev_bind mk (ev_bind hd (ev_if_neg (by omega) (ev_if_neg (by simp) (ev_bind s2 (ev_bind eq (ev_if_neg (by simp) (ev_if_neg (by simp) (ev_bind hd (ev_if_neg (by omega) (ev_if_neg (by simp) (ev_some _))))))))))))))))

end Go.Proofs.YtmfcblbpicbhoaaDoor.Fms
