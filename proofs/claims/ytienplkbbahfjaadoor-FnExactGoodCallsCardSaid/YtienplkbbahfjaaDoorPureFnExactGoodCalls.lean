/- The pure statement of the law FnExactGoodCalls: at every list of calls the printed law answers true. -/
import Derived.Test.YtienplkbbahfjaaDoorSayFnExactGoodCalls
import Derived.Test.YtienplkbbahfjaaDoorAid
import Derived.Test.YtienplkbbahfjaaDoorTrim
namespace Go.Proofs.YtienplkbbahfjaaDoor.Pure
open Go.RowKit Go.Proofs.YtienplkbbahfjaaDoor.PFnExactGoodCalls Go.Proofs.YtienplkbbahfjaaDoorW.PrintWords Go.Proofs.YtienplkbbahfjaaDoorW.PrintLast Go.Proofs.YtienplkbbahfjaaDoor.Aid Go.Proofs.YtienplkbbahfjaaDoor.MapW
set_option linter.unusedVariables false
set_option linter.unusedSimpArgs false

theorem in_f (a b c : Int) : impl_in.f a b c = some (decide (b ≤ a ∧ a ≤ c)) := by
  unfold impl_in.f
  by_cases h : a ≥ b
  · rw [if_pos h]; simp [h]
  · rw [if_neg h]; simp [h]
theorem l1In_f (a b c : Int) : spec_l1In.f a b c = some (decide (b ≤ a ∧ a ≤ c)) := by
  unfold spec_l1In.f
  by_cases h : a ≥ b
  · rw [if_pos h]; simp [h]
  · rw [if_neg h]; simp [h]

def keyByte (b : UInt8) : Bool := (decide (97 ≤ b.toNat) && decide (b.toNat ≤ 122)) || (decide (48 ≤ b.toNat) && decide (b.toNat ≤ 57))
def keyB (s : ByteArray) : Bool := decide (1 ≤ s.size ∧ s.size ≤ 8) && s.data.toList.all keyByte
def valByte (b : UInt8) : Bool := decide (32 ≤ b.toNat) && decide (b.toNat ≤ 126) && decide (b.toNat ≠ 59)
def valB (s : ByteArray) : Bool := s.data.toList.all valByte && decide (s.size ≤ 20)
def keyCut : List UInt8 := [97, 98, 99, 100, 101, 102, 103, 104, 105, 106, 107, 108, 109, 110, 111, 112, 113, 114, 115, 116, 117, 118, 119, 120, 121, 122, 48, 49, 50, 51, 52, 53, 54, 55, 56, 57]
theorem keyCut_has (b : UInt8) : keyCut.contains b = keyByte b := by
  have h : ∀ n : Fin 256, keyCut.contains (UInt8.ofNat n.val) = keyByte (UInt8.ofNat n.val) := by decide +kernel
  have := h ⟨b.toNat, b.toNat_lt⟩
  simpa using this
theorem drop_nil {α : Type} (p : α → Bool) (l : List α) : (l.dropWhile p).isEmpty = l.all p := by
  induction l with
  | nil => rfl
  | cons x l ih => cases h : p x <;> simp [List.dropWhile_cons, h, ih]
theorem all_drop {α : Type} (p : α → Bool) (l : List α) : (l.dropWhile p).all p = l.all p := by
  induction l with
  | nil => rfl
  | cons x l ih => cases h : p x <;> simp [List.dropWhile_cons, h, ih]
theorem trim_nil (l : List UInt8) : (Go.Lib.trimS l keyCut == []) = l.all keyByte := by
  have e : (Go.Lib.trimS l keyCut == []) = (Go.Lib.trimS l keyCut).isEmpty := by cases Go.Lib.trimS l keyCut <;> rfl
  rw [e]
  unfold Go.Lib.trimS Go.Lib.trimLeftS Go.Lib.trimRightS
  rw [drop_nil, List.all_reverse, all_drop, List.all_reverse]
  congr 1
  funext b
  exact keyCut_has b
theorem isKey_f (s : ByteArray) : impl_isKey.f s = some (keyB s) := by
  unfold impl_isKey.f keyB
  by_cases h1 : (s.size : Int) ≥ 1
  · rw [if_pos h1]
    by_cases h2 : (s.size : Int) ≤ 8
    · rw [if_pos h2]
      have e : MapW.strings_Trim.f s ⟨#[97, 98, 99, 100, 101, 102, 103, 104, 105, 106, 107, 108, 109, 110, 111, 112, 113, 114, 115, 116, 117, 118, 119, 120, 121, 122, 48, 49, 50, 51, 52, 53, 54, 55, 56, 57]⟩ = some ⟨(Go.Lib.trimS s.data.toList keyCut).toArray⟩ := by
        unfold MapW.strings_Trim.f
        rw [if_pos ⟨by omega, by decide, by decide⟩]
        rfl
      rw [e]
      have h3 : 1 ≤ s.size ∧ s.size ≤ 8 := by omega
      simp only [Option.bind_some, toList_data, trim_nil, h3, decide_true, Bool.true_and, and_self]
    · rw [if_neg h2]
      have h3 : ¬ (1 ≤ s.size ∧ s.size ≤ 8) := by omega
      simp only [h3, decide_false, Bool.false_and]
  · rw [if_neg h1]
    have h3 : ¬ (1 ≤ s.size ∧ s.size ≤ 8) := by omega
    simp only [h3, decide_false, Bool.false_and]
theorem l1Key_ev (s : ByteArray) (hs : s.size ≤ 140737488355328) : Ev (fun k => spec_l1Key.f k s) (keyB s) := by
  have key := all_loop (fun k i => spec_l1Key.l0 k s i) s.data.toList keyByte (decide (1 ≤ s.size ∧ s.size ≤ 8)) (ev_last fun k => ?_) (fun n b r hx hn hp H => ?_) (fun n b hx hn hp => ?_)
  · have e : keyB s = (s.data.toList.all keyByte && decide (1 ≤ s.size ∧ s.size ≤ 8)) := by unfold keyB; exact Bool.and_comm _ _
    rw [e]
    exact Ev.congr (fun k => rfl) key
  · simp only [spec_l1Key.l0]
    rw [← size_len, if_neg (by omega), l1In_f]
    simp only [Option.bind_some]
    congr 2
    exact propext ⟨fun h => by omega, fun h => by omega⟩
  · refine Ev.step (fun k => ?_) H
    rw [← size_len] at hn
    simp only [spec_l1Key.l0]
    rw [if_pos (by omega), if_pos (by omega), wrap_nat (by omega), bt_nat hx]
    simp only [keyByte, Bool.or_eq_true, Bool.and_eq_true, decide_eq_true_eq] at hp
    by_cases a1 : (b.toNat : Int) ≥ 97
    · rw [if_pos a1]
      by_cases a2 : (b.toNat : Int) ≤ 122
      · rw [if_pos a2]
      · rw [if_neg a2]; omega
    · rw [if_neg a1, if_pos (by omega), if_pos (by omega)]
  · refine ev_last fun k => ?_
    rw [← size_len] at hn
    simp only [spec_l1Key.l0]
    rw [if_pos (by omega), if_pos (by omega), bt_nat hx]
    simp only [keyByte, Bool.or_eq_false_iff, Bool.and_eq_false_iff, decide_eq_false_iff_not] at hp
    by_cases a1 : (b.toNat : Int) ≥ 97
    · rw [if_pos a1, if_neg (by omega)]
      by_cases a2 : (b.toNat : Int) ≥ 48
      · rw [if_pos a2, if_neg (by omega)]
      · rw [if_neg a2]
    · rw [if_neg a1]
      by_cases a2 : (b.toNat : Int) ≥ 48
      · rw [if_pos a2, if_neg (by omega)]
      · rw [if_neg a2]

theorem l1Value_ev (s : ByteArray) (hs : s.size ≤ 140737488355328) : Ev (fun k => spec_l1Value.f k s) (valB s) := by
  have key := all_loop (fun k i => spec_l1Value.l0 k s i) s.data.toList valByte (decide (s.size ≤ 20)) (ev_last fun k => ?_) (fun n b r hx hn hp H => ?_) (fun n b hx hn hp => ?_)
  · exact Ev.congr (fun k => rfl) key
  · simp only [spec_l1Value.l0]
    rw [← size_len, if_neg (by omega)]
    congr 2
    exact propext ⟨fun h => by omega, fun h => by omega⟩
  · refine Ev.step (fun k => ?_) H
    rw [← size_len] at hn
    simp only [valByte, Bool.and_eq_true, decide_eq_true_eq] at hp
    simp only [spec_l1Value.l0]
    rw [if_pos (by omega), if_pos (by omega), wrap_nat (by omega), bt_nat hx, if_neg (by omega), if_neg (by omega), if_neg (by omega)]
  · refine ev_last fun k => ?_
    rw [← size_len] at hn
    simp only [valByte, Bool.and_eq_false_iff, decide_eq_false_iff_not] at hp
    simp only [spec_l1Value.l0]
    rw [if_pos (by omega), if_pos (by omega), bt_nat hx]
    by_cases a1 : (b.toNat : Int) < 32
    · rw [if_pos a1]
    · rw [if_neg a1]
      by_cases a2 : (b.toNat : Int) > 126
      · rw [if_pos a2]
      · rw [if_neg a2, if_pos (by omega)]
theorem isValue_ev (s : ByteArray) (hs : s.size ≤ 140737488355328) : Ev (fun k => impl_isValue.f k s) (valB s) := by
  have key := all_loop (fun k i => impl_isValue.l0 k s (s.size : Int) i) s.data.toList valByte (decide (s.size ≤ 20)) (ev_last fun k => ?_) (fun n b r hx hn hp H => ?_) (fun n b hx hn hp => ?_)
  · exact Ev.congr (fun k => rfl) key
  · simp only [impl_isValue.l0]
    rw [← size_len, if_neg (by omega)]
    congr 2
    exact propext ⟨fun h => by omega, fun h => by omega⟩
  · refine Ev.step (fun k => ?_) H
    rw [← size_len] at hn
    simp only [valByte, Bool.and_eq_true, decide_eq_true_eq] at hp
    simp only [impl_isValue.l0]
    rw [if_pos (by omega), if_pos (by omega), if_pos (by omega), wrap_nat (by omega), bt_nat hx, if_neg (by omega), if_neg (by omega), if_neg (by omega)]
  · refine ev_last fun k => ?_
    rw [← size_len] at hn
    simp only [valByte, Bool.and_eq_false_iff, decide_eq_false_iff_not] at hp
    simp only [impl_isValue.l0]
    rw [if_pos (by omega), if_pos (by omega), if_pos (by omega), bt_nat hx]
    by_cases a1 : (b.toNat : Int) < 32
    · rw [if_pos a1]
    · rw [if_neg a1]
      by_cases a2 : (b.toNat : Int) > 126
      · rw [if_pos a2]
      · rw [if_neg a2, if_pos (by omega)]

abbrev Cl := S46
theorem rdC {xs : List Cl} {n : Nat} {x : Cl} (h : xs[n]? = some x) : rd_T46 xs (n : Int) = x := by simp [rd_T46, h]
theorem rdD {xs : List S45} {n : Nat} {x : S45} (h : xs[n]? = some x) : rd_T45 xs (n : Int) = x := by simp [rd_T45, h]
def baseOk (c : Cl) : Bool := decide (0 ≤ c.f0 ∧ c.f0 ≤ 9) && (keyB c.f2 && (valB c.f3 && !(decide (c.f4 < 0) || decide (c.f5 ≤ c.f4) || decide (c.f5 ≥ 1000000))))
def clashT (c o : Cl) : Bool := decide (o.f4 = c.f4) || decide (o.f4 = c.f5) || decide (o.f5 = c.f4) || decide (o.f5 = c.f5)
def overT (c o : Cl) : Bool := decide (o.f0 = c.f0) && (decide (o.f4 < c.f5) && decide (c.f4 < o.f5))
def callOk (p : List Cl) (c : Cl) : Bool := baseOk c && p.all (fun o => !(clashT c o) && !(overT c o))
def callsFrom (p : List Cl) : List Cl → Bool
  | [] => true
  | c :: r => callOk p c && callsFrom (p ++ [c]) r
def callsB (l : List Cl) : Bool := callsFrom [] l && decide (l.length ≤ 7)
theorem dec_seven (n : Nat) : decide ((n : Int) ≤ 7) = decide (n ≤ 7) := by by_cases h : n ≤ 7 <;> simp [h] <;> omega
theorem szCallS_ev (l : List S45) (hl : l.length ≤ 140737488355328) (hk : ∀ y ∈ l, y.f2.size ≤ 140737488351232 ∧ y.f3.size ≤ 140737488351232) : ∃ v, Ev (fun k => laws_szCallS.f k l 1048576) v ∧ (1048576 < l.length → v < 0) := by
  have w : wrap64 (1048576 - (l.length : Int)) = 1048576 - l.length := wrap_of (by omega) (by omega)
  obtain ⟨v, h1, h2⟩ := ev_exists_neg (g := fun k => laws_szCallS.f k l 1048576) (c := 1048576 - (l.length : Int)) (f := fun k => laws_szCallS.l0 k l (1048576 - (l.length : Int)) 0) (fun k => by unfold laws_szCallS.f; rw [w]) (fun hc => by
    refine sz_loop (fun k a i => laws_szCallS.l0 k l a i) (fun x a => laws_szCall.f x.f0 x.f1 x.f2 x.f3 x.f4 x.f5 a) l (fun x hx a h0 h1 => ?_) (fun k a => by simp [laws_szCallS.l0]) (fun k n x a v hx hn hv => ?_) _ (by omega) (by omega)
    · obtain ⟨s1, s2⟩ := hk x hx
      have w1 : wrap64 (a - (x.f2.size : Int)) = a - x.f2.size := wrap_of (by omega) (by omega)
      have w2 : wrap64 (a - (x.f2.size : Int) - (x.f3.size : Int)) = a - x.f2.size - x.f3.size := wrap_of (by omega) (by omega)
      unfold laws_szCall.f
      rw [w1]
      split
      · exact ⟨_, rfl, by omega⟩
      · rw [w2]
        split
        · exact ⟨_, rfl, by omega⟩
        · exact ⟨_, rfl, by omega⟩
    · simp only [laws_szCallS.l0]
      rw [if_pos (by omega), if_pos (by omega), rdD hx, hv, wrap_nat (by omega)]
      rfl)
  exact ⟨v, h1, fun h => h2 (by omega)⟩
def cvC (x : S45) : Cl := ⟨x.f0, x.f1, x.f2, x.f3, x.f4, x.f5⟩
theorem toCallS_ev (l : List S45) (hl : l.length ≤ 1048576) : Ev (fun k => laws_toCallS.f k l) (l.map cvC) := by
  have key := fill_loop (fun k xs i => laws_toCallS.l0 k l xs i) l cvC (fun k xs => by simp [laws_toCallS.l0]) (fun n x xs hx hn hl' H => ?_) z46
  · refine Ev.congr (fun k => ?_) key
    simp only [laws_toCallS.f]
    rw [if_pos (by omega), if_pos (by omega)]
    simp
  · refine Ev.step (fun k => ?_) H
    simp only [laws_toCallS.l0, laws_toCall.f, Option.bind_some]
    rw [if_pos (by omega), if_pos (by omega), if_pos (by omega), wrap_nat (by omega), rdD hx]
    simp [cvC]
theorem eqCall_f (a : Int) (b : Bool) (c d : ByteArray) (e f : Int) : laws_eqCall.f a b c d e f a b c d e f = some true := by simp [laws_eqCall.f]
theorem eqCallS_ev (l : List Cl) (hl : l.length ≤ 140737488355328) : Ev (fun k => laws_eqCallS.f k l l) true := by
  have key := eq_loop (fun k i => laws_eqCallS.l0 k l l i) l l (fun _ _ => true) rfl (fun k => by simp [laws_eqCallS.l0]) (fun n x y r hx hy hn _ he H => ?_) (fun n x y hx hy hn _ he => by cases he)
  · rw [zip_self_all (fun _ _ => true) (by simp) l] at key
    refine Ev.congr (fun k => ?_) key
    simp [laws_eqCallS.f]
  · refine Ev.step (fun k => ?_) H
    simp only [laws_eqCallS.l0]
    rw [if_pos (by omega), if_pos (by omega), if_pos (by omega), wrap_nat (by omega), eqCall_f]
    simp
theorem overlap_f (o c : Cl) : spec_l7Overlap.f o.f0 o.f1 o.f2 o.f3 o.f4 o.f5 c.f0 c.f1 c.f2 c.f3 c.f4 c.f5 = some (decide (o.f4 < c.f5) && decide (c.f4 < o.f5)) := by
  unfold spec_l7Overlap.f
  by_cases h : o.f4 < c.f5 <;> simp [h]
/-- What is base, told by the tests. -/
theorem base_true {c : Cl} : baseOk c = true ↔ (0 ≤ c.f0 ∧ c.f0 ≤ 9) ∧ keyB c.f2 = true ∧ valB c.f3 = true ∧ ¬ c.f4 < 0 ∧ ¬ c.f5 ≤ c.f4 ∧ ¬ c.f5 ≥ 1000000 := by
  simp only [baseOk, Bool.and_eq_true, decide_eq_true_eq, Bool.not_eq_true', Bool.or_eq_false_iff, decide_eq_false_iff_not]
  constructor
  · rintro ⟨h1, h2, h3, ⟨h4, h5⟩, h6⟩; exact ⟨h1, h2, h3, h4, h5, h6⟩
  · rintro ⟨h1, h2, h3, h4, h5, h6⟩; exact ⟨h1, h2, h3, ⟨h4, h5⟩, h6⟩
/-- Behind the base's tests of one call, a flag that says no leads to 'false'. -/
theorem specCalls_ev (l : List Cl) (hl : l.length ≤ 1048576) (hk : ∀ y ∈ l, y.f2.size ≤ 140737488351232 ∧ y.f3.size ≤ 140737488351232) : Ev (fun k => spec_GoodCalls.f k l) (callsB l) := by
  have key := drop_ind0 l (fun n rest => Ev (fun k => spec_GoodCalls.l0 k l l (l.length : Int) (n : Int)) (callsFrom (l.take n) rest && decide (l.length ≤ 7))) ?_ ?_
  · have h0 : Ev (fun k => spec_GoodCalls.l0 k l l (l.length : Int) 0) (callsB l) := by simpa [callsB] using key
    exact Ev.congr (fun k => rfl) h0
  · refine ev_last (fun k => ?_)
    simp only [spec_GoodCalls.l0]
    rw [if_neg (by omega)]
    simp [callsFrom, dec_seven]
  · intro n c rest hn hc _ ih
    rw [take_snoc hc] at ih
    have hlen : (l.take n).length = n := by simp; omega
    obtain ⟨s1, s2⟩ := hk c (List.mem_of_getElem? hc)
    have inner : Ev (fun k => spec_GoodCalls.l1 k l l (l.length : Int) (n : Int) (l.take n) ((l.take n).length : Int) 0 c.f0 c.f1 c.f2 c.f3 c.f4 c.f5) ((l.take n).all (fun o => !(clashT c o) && !(overT c o)) && (callsFrom (l.take n ++ [c]) rest && decide (l.length ≤ 7))) := by
      refine all_loop (fun k i => spec_GoodCalls.l1 k l l (l.length : Int) (n : Int) (l.take n) ((l.take n).length : Int) i c.f0 c.f1 c.f2 c.f3 c.f4 c.f5) (l.take n) (fun o => !(clashT c o) && !(overT c o)) _ ?_ ?_ ?_
      · refine ev_shift ?_
        simp only [spec_GoodCalls.l1]
        refine ev_if_neg (by omega) ?_
        rw [wrap_nat (by omega)]
        exact ih
      · intro j o r ho hj hp H
        simp only [Bool.and_eq_true, Bool.not_eq_true', clashT, overT, Bool.or_eq_false_iff, decide_eq_false_iff_not] at hp
        obtain ⟨⟨⟨⟨a1, a2⟩, a3⟩, a4⟩, a5⟩ := hp
        refine ev_shift ?_
        simp only [spec_GoodCalls.l1, rdC ho, overlap_f, Option.bind_some, wrap_nat (show j < 9223372036854775807 by omega)]
        refine ev_if_pos (by omega) (ev_if_pos (by omega) (ev_if_pos (by omega) (ev_if_neg a1 (ev_if_neg a2 (ev_if_neg a3 (ev_if_neg a4 ?_))))))
        by_cases b1 : o.f0 = c.f0
        · refine ev_if_pos b1 ?_
          simp only [b1, decide_true, Bool.true_and] at a5
          simp only [a5]
          exact H
        · exact ev_if_neg b1 H
      · intro j o ho hj hp
        refine ev_last (fun k => ?_)
        simp only [spec_GoodCalls.l1, rdC ho, overlap_f, Option.bind_some]
        rw [if_pos (by omega), if_pos (by omega), if_pos (by omega)]
        by_cases a1 : o.f4 = c.f4
        · rw [if_pos a1]
        · rw [if_neg a1]
          by_cases a2 : o.f4 = c.f5
          · rw [if_pos a2]
          · rw [if_neg a2]
            by_cases a3 : o.f5 = c.f4
            · rw [if_pos a3]
            · rw [if_neg a3]
              by_cases a4 : o.f5 = c.f5
              · rw [if_pos a4]
              · rw [if_neg a4]
                have h1 : clashT c o = false := by simp [clashT, a1, a2, a3, a4]
                simp only [h1, Bool.not_false, Bool.true_and, Bool.not_eq_false'] at hp
                simp only [overT, Bool.and_eq_true, decide_eq_true_eq] at hp
                rw [if_pos hp.1]
                simp [hp.2.1, hp.2.2]
    have bad : ∀ x : Bool, x = true → Ev (fun k => spec_GoodCalls.j1 k l (n : Int) l (l.length : Int) (n : Int) x c.f0 c.f1 c.f2 c.f3 c.f4 c.f5) false := by
      intro x hx
      exact ev_last (fun k => by simp only [spec_GoodCalls.j1]; rw [if_pos hx])
    have hno : callsFrom (l.take n) (c :: rest) = (baseOk c && (l.take n).all (fun o => !(clashT c o) && !(overT c o)) && callsFrom (l.take n ++ [c]) rest) := rfl
    have good : ∀ x : Bool, x = false → Ev (fun k => spec_GoodCalls.j1 k l (n : Int) l (l.length : Int) (n : Int) x c.f0 c.f1 c.f2 c.f3 c.f4 c.f5) ((l.take n).all (fun o => !(clashT c o) && !(overT c o)) && (callsFrom (l.take n ++ [c]) rest && decide (l.length ≤ 7))) := by
      intro x hx
      refine ev_shift ?_
      simp only [spec_GoodCalls.j1]
      refine ev_if_neg (by simp [hx]) (ev_if_pos (by omega) (ev_if_pos (by omega) ?_))
      simp only [Option.bind_some, Int.toNat_natCast]
      exact inner
    have fall : baseOk c = false → callsFrom (l.take n) (c :: rest) = false := fun h => by rw [hno, h]; rfl
    refine ev_shift ?_
    simp only [spec_GoodCalls.l0, rdC hc, l1In_f, Option.bind_some]
    refine ev_if_pos (by omega) (ev_if_pos (by omega) (ev_if_pos (by omega) ?_))
    by_cases b0 : 0 ≤ c.f0 ∧ c.f0 ≤ 9
    · refine ev_if_pos (decide_eq_true b0) (ev_bind (l1Key_ev c.f2 (by omega)) ?_)
      cases b1 : keyB c.f2 with
      | false =>
        rw [fall (by simp [baseOk, b1]), Bool.false_and]
        exact ev_if_neg (by simp) (bad _ rfl)
      | true =>
        refine ev_if_pos rfl (ev_bind (l1Value_ev c.f3 (by omega)) ?_)
        cases b2 : valB c.f3 with
        | false =>
          rw [fall (by simp [baseOk, b2]), Bool.false_and]
          exact ev_if_neg (by simp) (bad _ rfl)
        | true =>
          refine ev_if_pos rfl ?_
          by_cases b3 : c.f4 < 0
          · rw [fall (by simp [baseOk, b3]), Bool.false_and]
            exact ev_if_pos b3 (bad _ rfl)
          · refine ev_if_neg b3 ?_
            by_cases b4 : c.f5 ≤ c.f4
            · rw [fall (by simp [baseOk, b4]), Bool.false_and]
              exact ev_if_pos b4 (bad _ rfl)
            · refine ev_if_neg b4 ?_
              by_cases b5 : c.f5 ≥ 1000000
              · rw [fall (by simp [baseOk, b5]), Bool.false_and]
                exact bad _ (decide_eq_true b5)
              · have : baseOk c = true := base_true.2 ⟨b0, b1, b2, b3, b4, b5⟩
                rw [hno, this, Bool.true_and, Bool.and_assoc]
                exact good _ (decide_eq_false b5)
    · rw [fall (by simp [baseOk, b0]), Bool.false_and]
      exact ev_if_neg (by simp [b0]) (bad _ rfl)
theorem implCalls_ev (l : List Cl) (hl : l.length ≤ 1048576) (hk : ∀ y ∈ l, y.f2.size ≤ 140737488351232 ∧ y.f3.size ≤ 140737488351232) : Ev (fun k => impl_areCalls.f k l) (callsB l) := by
  have key := drop_ind0 l (fun n rest => ∀ m : List (Int × Bool), (∀ x, mgetD m x false = (l.take n).any (fun o => decide (o.f4 = x) || decide (o.f5 = x))) → Ev (fun k => impl_areCalls.l0 k l l (l.length : Int) (n : Int) m) (callsFrom (l.take n) rest && decide (l.length ≤ 7))) ?_ ?_
  · have h0 : Ev (fun k => impl_areCalls.l0 k l l (l.length : Int) 0 []) (callsB l) := by simpa [callsB] using key [] (by intro x; simp [mgetD, mget])
    exact Ev.congr (fun k => rfl) h0
  · intro m _
    refine ev_last (fun k => ?_)
    simp only [impl_areCalls.l0]
    rw [if_neg (by omega)]
    simp [callsFrom, dec_seven]
  · intro n c rest hn hc _ ih m hm
    rw [take_snoc hc] at ih
    have hlen : (l.take n).length = n := by simp; omega
    obtain ⟨s1, s2⟩ := hk c (List.mem_of_getElem? hc)
    have hm2 : ∀ x, mgetD (mput (mput m c.f4 true) c.f5 true) x false = (l.take n ++ [c]).any (fun o => decide (o.f4 = x) || decide (o.f5 = x)) := by
      intro x
      simp only [mgetD, mget_mput, List.any_append, List.any_cons, List.any_nil, Bool.or_false]
      have := hm x
      simp only [mgetD] at this
      by_cases h5 : x = c.f5
      · simp [h5]
      · by_cases h4 : x = c.f4
        · simp [h4]
        · rw [if_neg h5, if_neg h4, this]
          have e4 : ¬ c.f4 = x := fun e => h4 e.symm
          have e5 : ¬ c.f5 = x := fun e => h5 e.symm
          simp [e4, e5]
    have inner : Ev (fun k => impl_areCalls.l1 k l l (l.length : Int) (n : Int) (l.take n) ((l.take n).length : Int) 0 (mput (mput m c.f4 true) c.f5 true) c.f0 c.f1 c.f2 c.f3 c.f4 c.f5) ((l.take n).all (fun o => !(overT c o)) && (callsFrom (l.take n ++ [c]) rest && decide (l.length ≤ 7))) := by
      refine all_loop (fun k i => impl_areCalls.l1 k l l (l.length : Int) (n : Int) (l.take n) ((l.take n).length : Int) i (mput (mput m c.f4 true) c.f5 true) c.f0 c.f1 c.f2 c.f3 c.f4 c.f5) (l.take n) (fun o => !(overT c o)) _ ?_ ?_ ?_
      · refine ev_shift ?_
        simp only [impl_areCalls.l1]
        refine ev_if_neg (by omega) ?_
        rw [wrap_nat (by omega)]
        exact ih _ hm2
      · intro j o r ho hj hp H
        simp only [Bool.not_eq_true', overT, Bool.and_eq_false_iff, decide_eq_false_iff_not] at hp
        refine ev_shift ?_
        simp only [impl_areCalls.l1, rdC ho, wrap_nat (show j < 9223372036854775807 by omega)]
        refine ev_if_pos (by omega) (ev_if_pos (by omega) (ev_if_pos (by omega) ?_))
        by_cases b1 : c.f0 = o.f0
        · refine ev_if_pos b1 ?_
          by_cases b2 : c.f5 > o.f4
          · refine ev_if_pos b2 ?_
            have : ¬ o.f5 > c.f4 := by
              rcases hp with h | h | h
              · exact absurd b1.symm h
              · exact absurd b2 h
              · exact h
            exact ev_if_neg this H
          · exact ev_if_neg b2 H
        · exact ev_if_neg b1 H
      · intro j o ho hj hp
        simp only [Bool.not_eq_false', overT, Bool.and_eq_true, decide_eq_true_eq] at hp
        refine ev_last (fun k => ?_)
        simp only [impl_areCalls.l1, rdC ho]
        rw [if_pos (by omega), if_pos (by omega), if_pos (by omega), if_pos hp.1.symm, if_pos hp.2.1, if_pos hp.2.2]
    have bad : ∀ x : Bool, x = true → Ev (fun k => impl_areCalls.j1 k l (n : Int) l (l.length : Int) (n : Int) x m c.f0 c.f1 c.f2 c.f3 c.f4 c.f5) false := by
      intro x hx
      exact ev_last (fun k => by simp only [impl_areCalls.j1]; rw [if_pos hx])
    have hno : callsFrom (l.take n) (c :: rest) = (baseOk c && (l.take n).all (fun o => !(clashT c o) && !(overT c o)) && callsFrom (l.take n ++ [c]) rest) := rfl
    have good : ∀ x : Bool, x = false → Ev (fun k => impl_areCalls.j1 k l (n : Int) l (l.length : Int) (n : Int) x m c.f0 c.f1 c.f2 c.f3 c.f4 c.f5) ((l.take n).all (fun o => !(overT c o)) && (callsFrom (l.take n ++ [c]) rest && decide (l.length ≤ 7))) := by
      intro x hx
      refine ev_shift ?_
      simp only [impl_areCalls.j1]
      refine ev_if_neg (by simp [hx]) (ev_if_pos (by omega) (ev_if_pos (by omega) ?_))
      simp only [Option.bind_some, Int.toNat_natCast]
      exact inner
    have fall : baseOk c = false → callsFrom (l.take n) (c :: rest) = false := fun h => by rw [hno, h]; rfl
    have clash : (l.take n).any (fun o => clashT c o) = (mgetD m c.f4 false || mgetD m c.f5 false) := by
      rw [hm, hm]
      generalize l.take n = p
      induction p with
      | nil => rfl
      | cons o p ih2 =>
        simp only [List.any_cons]
        rw [ih2]
        simp only [clashT]
        generalize (p.any fun o => decide (o.f4 = c.f4) || decide (o.f5 = c.f4)) = u
        generalize (p.any fun o => decide (o.f4 = c.f5) || decide (o.f5 = c.f5)) = v
        cases u <;> cases v <;> cases decide (o.f4 = c.f4) <;> cases decide (o.f4 = c.f5) <;> cases decide (o.f5 = c.f4) <;> cases decide (o.f5 = c.f5) <;> simp
    have split2 : (l.take n).all (fun o => !(clashT c o) && !(overT c o)) = (!((l.take n).any (fun o => clashT c o)) && (l.take n).all (fun o => !(overT c o))) := by
      generalize l.take n = p
      induction p with
      | nil => rfl
      | cons o p ih2 =>
        simp only [List.all_cons, List.any_cons, ih2]
        cases clashT c o <;> cases overT c o <;> simp
    refine ev_shift ?_
    simp only [impl_areCalls.l0, rdC hc, in_f, isKey_f, Option.bind_some]
    refine ev_if_pos (by omega) (ev_if_pos (by omega) (ev_if_pos (by omega) ?_))
    by_cases b0 : 0 ≤ c.f0 ∧ c.f0 ≤ 9
    · refine ev_if_pos (decide_eq_true b0) ?_
      cases b1 : keyB c.f2 with
      | false =>
        rw [fall (by simp [baseOk, b1]), Bool.false_and]
        exact ev_if_neg (by simp) (bad _ rfl)
      | true =>
        refine ev_if_pos rfl (ev_bind (isValue_ev c.f3 (by omega)) ?_)
        cases b2 : valB c.f3 with
        | false =>
          rw [fall (by simp [baseOk, b2]), Bool.false_and]
          exact ev_if_neg (by simp) (bad _ rfl)
        | true =>
          refine ev_if_pos rfl ?_
          by_cases b3 : c.f4 < 0
          · rw [fall (by simp [baseOk, b3]), Bool.false_and]
            exact ev_if_pos b3 (bad _ rfl)
          · refine ev_if_neg b3 ?_
            by_cases b4 : c.f5 ≤ c.f4
            · rw [fall (by simp [baseOk, b4]), Bool.false_and]
              exact ev_if_pos b4 (bad _ rfl)
            · refine ev_if_neg b4 ?_
              by_cases b5 : c.f5 ≥ 1000000
              · rw [fall (by simp [baseOk, b5]), Bool.false_and]
                exact ev_if_pos b5 (bad _ rfl)
              · refine ev_if_neg b5 ?_
                have hb : baseOk c = true := base_true.2 ⟨b0, b1, b2, b3, b4, b5⟩
                rw [hno, hb, Bool.true_and, split2, clash]
                cases t1 : mgetD m c.f4 false with
                | true =>
                  simp only [Bool.true_or, Bool.not_true, Bool.false_and]
                  exact ev_if_pos (by simp) (bad _ rfl)
                | false =>
                  refine ev_if_neg (by simp) ?_
                  cases t2 : mgetD m c.f5 false with
                  | true =>
                    simp only [Bool.or_true, Bool.not_true, Bool.false_and]
                    exact bad _ rfl
                  | false =>
                    simp only [Bool.or_self, Bool.not_false, Bool.true_and, Bool.and_assoc]
                    exact good _ rfl
    · rw [fall (by simp [baseOk, b0]), Bool.false_and]
      exact ev_if_neg (by simp [b0]) (bad _ rfl)

theorem FnExactGoodCalls : laws_FnExactGoodCalls.Pure := by
  intro l hb hk
  have hl : l.length ≤ 140737488355328 := by omega
  have hs : ∀ y ∈ l, y.f2.size ≤ 140737488351232 ∧ y.f3.size ≤ 140737488351232 := fun y hy => ⟨(hk y hy).2.2.1, (hk y hy).2.2.2.1⟩
  apply Ev.rounds
  unfold laws_FnExactGoodCalls.f
  obtain ⟨v, hv, hv2⟩ := szCallS_ev l hl hs
  refine ev_bind hv ?_
  by_cases hneg : v < 0
  · exact ev_if_pos hneg (ev_some _)
  · refine ev_if_neg hneg ?_
    have hle0 : l.length ≤ 1048576 := by
      by_cases h : 1048576 < l.length
      · exact absurd (hv2 h) hneg
      · omega
    have hto := toCallS_ev l hle0
    have hle : (l.map cvC).length ≤ 1048576 := by simpa using hle0
    have hs2 : ∀ y ∈ l.map cvC, y.f2.size ≤ 140737488351232 ∧ y.f3.size ≤ 140737488351232 := by
      intro y hy
      obtain ⟨x, hx, rfl⟩ := List.mem_map.1 hy
      exact hs x hx
    generalize l.map cvC = m at hto hle hs2
    refine ev_bind hto (ev_bind (specCalls_ev m hle hs2) (ev_bind hto (ev_bind (a := callsB m) ?_ ?_)))
    · unfold impl_GoodCalls.f
      exact ev_bind (implCalls_ev m hle hs2) (ev_some _)
    · simp only [bne_self_eq_false, Bool.false_eq_true, if_false]
      refine ev_bind hto (ev_bind (eqCallS_ev m (by omega)) ?_)
      simpa using ev_some true

end Go.Proofs.YtienplkbbahfjaaDoor.Pure
