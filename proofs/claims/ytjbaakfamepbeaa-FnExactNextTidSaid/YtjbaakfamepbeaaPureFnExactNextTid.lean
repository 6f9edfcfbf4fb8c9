/- The pure statement of the law FnExactNextTid: at every list of tids and every epoch the printed law answers true. -/
import Derived.Test.YtjbaakfamepbeaaSayFnExactNextTid
import Derived.Test.YtjbaakfamepbeaaAid
namespace Go.Proofs.Ytjbaakfamepbeaa.Pure
open Go.RowKit Go.Proofs.Ytjbaakfamepbeaa.PFnExactNextTid Go.Proofs.YtjbaakfamepbeaaW.PrintWords Go.Proofs.YtjbaakfamepbeaaW.PrintLast Go.Proofs.Ytjbaakfamepbeaa.Aid
set_option linter.unusedVariables false
set_option linter.unusedSimpArgs false

theorem in_f (a b c : Int) : impl_in.f a b c = some (decide (b ≤ a ∧ a ≤ c)) := by
  unfold impl_in.f
  by_cases h : a ≥ b
  · rw [if_pos h]; simp [h]
  · rw [if_neg h]; simp [h]
theorem l1In_f (a b c : Int) : spec_l1In.f a b c = some (decide (b ≤ a ∧ a ≤ c)) := by
  unfold spec_l1In.f
  by_cases h : a ≥ b
  · rw [if_pos h]; simp [h]
  · rw [if_neg h]; simp [h]
def tidB (a b : Int) : Bool := decide (0 ≤ a ∧ a ≤ 1048575) && decide (0 ≤ b ∧ b ≤ 16777215)
theorem isTid_f (a b : Int) (c : Bool) : impl_isTid.f a b c = some (tidB a b) := by
  unfold impl_isTid.f tidB
  rw [in_f, in_f]
  by_cases h : 0 ≤ a ∧ a ≤ 1048575 <;> simp [h]
theorem l1Tid_f (a b : Int) (c : Bool) : spec_l1Tid.f a b c = some (tidB a b) := by
  unfold spec_l1Tid.f tidB
  rw [l1In_f, l1In_f]
  by_cases h : 0 ≤ a ∧ a ≤ 1048575 <;> simp [h]

def cvTid (x : S24) : S26 := ⟨x.f0, x.f1, x.f2⟩
theorem rd24 {xs : List S24} {n : Nat} {x : S24} (h : xs[n]? = some x) : rd_T24 xs (n : Int) = x := by simp [rd_T24, h]
theorem rd26 {xs : List S26} {n : Nat} {x : S26} (h : xs[n]? = some x) : rd_T26 xs (n : Int) = x := by simp [rd_T26, h]
theorem szTidS_f (l : List S24) (a : Int) (hl : l.length ≤ 140737488355328) (h0 : 0 ≤ a) (h1 : a ≤ 1048576) : laws_szTidS.f l a = some (if a < l.length then -1 else a - l.length) := by
  have w : wrap64 (a - (l.length : Int)) = a - l.length := wrap_of (by omega) (by omega)
  unfold laws_szTidS.f
  rw [w]
  by_cases h : a < (l.length : Int)
  · rw [if_pos (by omega), if_pos h]
  · rw [if_neg (by omega), if_neg h]
theorem toTidS_ev (l : List S24) (hl : l.length ≤ 1048576) : Ev (fun k => laws_toTidS.f k l) (l.map cvTid) := by
  have key := fill_loop (fun k xs i => laws_toTidS.l0 k l xs i) l cvTid (fun k xs => by simp [laws_toTidS.l0]) (fun n x xs hx hn hl' H => ?_) z26
  · refine Ev.congr (fun k => ?_) key
    simp only [laws_toTidS.f]
    rw [if_pos (by omega), if_pos (by omega)]
    simp
  · refine Ev.step (fun k => ?_) H
    simp only [laws_toTidS.l0, laws_toTid.f, Option.bind_some]
    rw [if_pos (by omega), if_pos (by omega), if_pos (by omega), wrap_nat (by omega), rd24 hx]
    simp [cvTid]
theorem eqTid_f (a b : Int) (c : Bool) : laws_eqTid.f a b c a b c = some true := by simp [laws_eqTid.f]
theorem eqTidS_ev (l : List S26) (hl : l.length ≤ 140737488355328) : Ev (fun k => laws_eqTidS.f k l l) true := by
  have key := eq_loop (fun k i => laws_eqTidS.l0 k l l i) l l (fun _ _ => true) rfl (fun k => by simp [laws_eqTidS.l0]) (fun n x y r hx hy hn _ he H => ?_) (fun n x y hx hy hn _ he => by cases he)
  · rw [zip_self_all (fun _ _ => true) (by simp) l] at key
    refine Ev.congr (fun k => ?_) key
    simp [laws_eqTidS.f]
  · refine Ev.step (fun k => ?_) H
    simp only [laws_eqTidS.l0]
    rw [if_pos (by omega), if_pos (by omega), if_pos (by omega), wrap_nat (by omega), eqTid_f]
    simp

theorem compare_spec (k : Nat) (a b : Int) (c : Bool) (x y : Int) (z : Bool) : spec_l1Compare.f (k + 1) a b c x y z = some (if a < x then -1 else if x < a then 1 else if b < y then -1 else if y < b then 1 else 0) := by
  simp only [spec_l1Compare.f, spec_l1Compare.j0]
  by_cases h1 : a < x
  · simp [h1]
  · by_cases h2 : a = x
    · subst h2
      by_cases h3 : b < y
      · simp [h3]
      · by_cases h4 : y < b <;> simp [h3, h4]
    · have : x < a := by omega
      simp [h1, h2, this]
abbrev R4 := Int × Int × Bool × Bool
/-- One round of the spec's loop: what comes next. -/
theorem spec_round {l : List S26} {E : Int} {n : Nat} {t : S26} {e s : Int} {r : R4} (hx : l[n]? = some t) (hn : n < l.length) (hl : l.length ≤ 60) (h1 : t.f1 ≤ 16777215) (h0 : 0 ≤ t.f1)
    (H : Ev (fun k => if e < t.f0 ∨ (t.f0 = e ∧ s ≤ t.f1) then spec_l1Next.l0 k E l (l.length : Int) ((n + 1 : Nat) : Int) t.f0 (t.f1 + 1) false else spec_l1Next.l0 k E l (l.length : Int) ((n + 1 : Nat) : Int) e s false) r) :
    Ev (fun k => spec_l1Next.l0 k E l (l.length : Int) (n : Int) e s false) r := by
  obtain ⟨K, hK⟩ := H
  refine ⟨K + 2, fun k hk => ?_⟩
  obtain ⟨k, rfl⟩ : ∃ m, k = m + 2 := ⟨k - 2, by omega⟩
  have := hK (k + 1) (by omega)
  simp only at this
  show spec_l1Next.l0 (k + 2) E l (l.length : Int) (n : Int) e s false = some r
  rw [spec_l1Next.l0, if_pos (by omega), if_pos (by omega), if_pos (by omega), rd26 hx, compare_spec, wrap_nat (by omega), wrap_of (by omega) (by omega)]
  simp only [Option.bind_some]
  by_cases c1 : t.f0 < e
  · rw [if_neg (by omega)] at this
    simp only [if_pos c1]
    rw [if_neg (by omega)]; exact this
  · by_cases c2 : e < t.f0
    · rw [if_pos (.inl c2)] at this
      simp only [if_neg c1, if_pos c2]
      rw [if_pos (by omega)]; exact this
    · by_cases c3 : t.f1 < s
      · rw [if_neg (by omega)] at this
        simp only [if_neg c1, if_neg c2, if_pos c3]
        rw [if_neg (by omega)]; exact this
      · rw [if_pos (by omega)] at this
        simp only [if_neg c1, if_neg c2, if_neg c3]
        by_cases c4 : s < t.f1
        · simp only [if_pos c4]; rw [if_pos (by omega)]; exact this
        · simp only [if_neg c4]; rw [if_pos (by omega)]; exact this
def good (t : S26) : Prop := tidB t.f0 t.f1 = true
theorem good_b {t : S26} (h : good t) : 0 ≤ t.f0 ∧ t.f0 ≤ 1048575 ∧ 0 ≤ t.f1 ∧ t.f1 ≤ 16777215 := by
  unfold good tidB at h
  simp at h
  omega
/-- Beyond the epoch: the spec never comes back. -/
theorem beyond (l : List S26) (E : Int) (hl : l.length ≤ 60) (hg : ∀ t ∈ l, good t) : ∀ n, n ≤ l.length → ∀ e s, E < e → ∃ e' s', Ev (fun k => spec_l1Next.l0 k E l (l.length : Int) (n : Int) e s false) (e', s', false, false) := by
  intro n hn
  induction hd : l.length - n generalizing n with
  | zero =>
    intro e s he
    have h : n = l.length := by omega
    subst h
    refine ⟨e, s, Ev.step (fun k => ?_) (ev_some _)⟩
    simp only [spec_l1Next.l0]
    rw [if_neg (by omega), if_neg (by omega)]
  | succ d ih =>
    intro e s he
    have hlt : n < l.length := by omega
    have hx : l[n]? = some l[n] := List.getElem?_eq_getElem hlt
    obtain ⟨_, _, g3, g4⟩ := good_b (hg _ (List.getElem_mem hlt))
    by_cases c : e < l[n].f0 ∨ (l[n].f0 = e ∧ s ≤ l[n].f1)
    · obtain ⟨e', s', h⟩ := ih (n + 1) (by omega) (by omega) l[n].f0 (l[n].f1 + 1) (by omega)
      exact ⟨e', s', spec_round hx hlt hl g4 g3 (by simpa only [if_pos c] using h)⟩
    · obtain ⟨e', s', h⟩ := ih (n + 1) (by omega) (by omega) e s he
      exact ⟨e', s', spec_round hx hlt hl g4 g3 (by simpa only [if_neg c] using h)⟩
theorem impl_round {l : List S26} {E : Int} {n : Nat} {t : S26} {s : Int} {r : R4} (hx : l[n]? = some t) (hn : n < l.length) (hl : l.length ≤ 60)
    (H : Ev (fun k => if tidB t.f0 t.f1 = true ∧ t.f0 ≤ E then (if t.f0 = E then impl_NextTid.l0 k E l (l.length : Int) ((n + 1 : Nat) : Int) E (mx s (wrap64 (t.f1 + 1))) false else impl_NextTid.l0 k E l (l.length : Int) ((n + 1 : Nat) : Int) E s false) else some (0, 0, false, false)) r) :
    Ev (fun k => impl_NextTid.l0 k E l (l.length : Int) (n : Int) E s false) r := by
  obtain ⟨K, hK⟩ := H
  refine ⟨K + 2, fun k hk => ?_⟩
  obtain ⟨k, rfl⟩ : ∃ m, k = m + 2 := ⟨k - 2, by omega⟩
  have := hK k (by omega)
  simp only at this
  show impl_NextTid.l0 (k + 2) E l (l.length : Int) (n : Int) E s false = some r
  rw [impl_NextTid.l0, if_pos (by omega), if_pos (by omega), if_pos (by omega), rd26 hx, isTid_f]
  simp only [Option.bind_some, impl_NextTid.j2, wrap_nat (show n < 9223372036854775807 by omega)]
  by_cases c1 : tidB t.f0 t.f1 = true
  · by_cases c2 : t.f0 ≤ E
    · rw [if_pos ⟨c1, c2⟩] at this
      rw [if_pos c1, if_neg (by simp; omega)]; exact this
    · rw [if_neg (by omega)] at this
      rw [if_pos c1, if_pos (by simp; omega)]; exact this
  · rw [if_neg (fun h => c1 h.1)] at this
    rw [if_neg c1]; simpa using this
/-- Where all are good: both come to the same. -/
theorem same (l : List S26) (E : Int) (hl : l.length ≤ 60) (hg : ∀ t ∈ l, good t) : ∀ n, n ≤ l.length → ∀ s, 0 ≤ s → s ≤ 16777216 → ∃ e' s' f, Ev (fun k => spec_l1Next.l0 k E l (l.length : Int) (n : Int) E s false) (e', s', false, f) ∧
    Ev (fun k => impl_NextTid.l0 k E l (l.length : Int) (n : Int) E s false) (if f = true then (e', s', false, true) else (0, 0, false, false)) := by
  intro n hn
  induction hd : l.length - n generalizing n with
  | zero =>
    intro s h0 h1
    have h : n = l.length := by omega
    subst h
    refine ⟨E, s, decide (s ≤ 16777215), Ev.step (fun k => ?_) (ev_some _), Ev.step (fun k => ?_) (ev_some _)⟩
    · simp only [spec_l1Next.l0]
      rw [if_neg (by omega)]
      simp
    · simp only [impl_NextTid.l0]
      rw [if_neg (by omega)]
      by_cases c : s > 16777215
      · rw [if_pos c, if_neg (by simp; omega)]
      · rw [if_neg c, if_pos (by simp; omega)]
  | succ d ih =>
    intro s h0 h1
    have hlt : n < l.length := by omega
    have hx : l[n]? = some l[n] := List.getElem?_eq_getElem hlt
    have hgn := hg _ (List.getElem_mem hlt)
    obtain ⟨_, _, g3, g4⟩ := good_b hgn
    have w : wrap64 (l[n].f1 + 1) = l[n].f1 + 1 := wrap_of (by omega) (by omega)
    by_cases c0 : E < l[n].f0
    · obtain ⟨e', s', h⟩ := beyond l E hl hg (n + 1) (by omega) l[n].f0 (l[n].f1 + 1) c0
      refine ⟨e', s', false, spec_round hx hlt hl g4 g3 (by simpa only [if_pos (Or.inl c0)] using h), impl_round hx hlt hl ?_⟩
      have : ¬ (tidB l[n].f0 l[n].f1 = true ∧ l[n].f0 ≤ E) := by omega
      simp only [if_neg this]
      exact ev_some _
    · by_cases c1 : l[n].f0 = E
      · obtain ⟨e', s', f, h, h'⟩ := ih (n + 1) (by omega) (by omega) (mx s (l[n].f1 + 1)) (by unfold mx; omega) (by unfold mx; omega)
        refine ⟨e', s', f, spec_round hx hlt hl g4 g3 ?_, impl_round hx hlt hl ?_⟩
        · by_cases c2 : s ≤ l[n].f1
          · have : mx s (l[n].f1 + 1) = l[n].f1 + 1 := by unfold mx; omega
            rw [this] at h
            simp only [if_pos (Or.inr ⟨c1, c2⟩ : E < l[n].f0 ∨ (l[n].f0 = E ∧ s ≤ l[n].f1))]
            rw [c1]; exact h
          · have : mx s (l[n].f1 + 1) = s := by unfold mx; omega
            rw [this] at h
            have c3 : ¬ (E < l[n].f0 ∨ (l[n].f0 = E ∧ s ≤ l[n].f1)) := by omega
            simpa only [if_neg c3] using h
        · have c3 : tidB l[n].f0 l[n].f1 = true ∧ l[n].f0 ≤ E := ⟨hgn, by omega⟩
          simp only [if_pos c3, if_pos c1, w]
          exact h'
      · obtain ⟨e', s', f, h, h'⟩ := ih (n + 1) (by omega) (by omega) s h0 h1
        have c3 : ¬ (E < l[n].f0 ∨ (l[n].f0 = E ∧ s ≤ l[n].f1)) := by omega
        have c4 : tidB l[n].f0 l[n].f1 = true ∧ l[n].f0 ≤ E := ⟨hgn, by omega⟩
        exact ⟨e', s', f, spec_round hx hlt hl g4 g3 (by simpa only [if_neg c3] using h), impl_round hx hlt hl (by simpa only [if_pos c4, if_neg c1] using h')⟩
/-- One that is not good: the impl answers nothing. -/
theorem impl_bad (l : List S26) (E : Int) (hl : l.length ≤ 60) : ∀ n, n ≤ l.length → (∃ t ∈ l.drop n, ¬ good t) → ∀ s, Ev (fun k => impl_NextTid.l0 k E l (l.length : Int) (n : Int) E s false) (0, 0, false, false) := by
  intro n hn
  induction hd : l.length - n generalizing n with
  | zero =>
    intro ⟨t, ht, _⟩
    rw [List.drop_eq_nil_of_le (by omega)] at ht
    cases ht
  | succ d ih =>
    intro ⟨t, ht, hb⟩ s
    have hlt : n < l.length := by omega
    have hx : l[n]? = some l[n] := List.getElem?_eq_getElem hlt
    refine impl_round hx hlt hl ?_
    by_cases c : tidB l[n].f0 l[n].f1 = true ∧ l[n].f0 ≤ E
    · have hm : t ∈ l.drop (n + 1) := by
        rw [List.drop_eq_getElem_cons hlt] at ht
        rcases List.mem_cons.1 ht with rfl | h
        · exact absurd c.1 hb
        · exact h
      simp only [if_pos c]
      by_cases c1 : l[n].f0 = E
      · simp only [if_pos c1]; exact ih (n + 1) (by omega) (by omega) ⟨t, hm, hb⟩ _
      · simp only [if_neg c1]; exact ih (n + 1) (by omega) (by omega) ⟨t, hm, hb⟩ _
    · simp only [if_neg c]; exact ev_some _
/-- The spec's first loop: are all good? -/
theorem spec_first (l : List S26) (E : Int) (hl : l.length ≤ 60) (r : R4) (hall : (∀ t ∈ l, good t) → Ev (fun k => (spec_l1Next.f k l E).bind fun b => (if b.2.2.2 = true then (some (b.1, b.2.1, b.2.2.1, true)) else (some (0, 0, false, false)))) r)
    (hsome : (∃ t ∈ l, ¬ good t) → r = (0, 0, false, false)) : Ev (fun k => spec_NextTid.l0 k l E l (l.length : Int) 0) r := by
  have key : ∀ n, n ≤ l.length → (∀ t ∈ l.take n, good t) → Ev (fun k => spec_NextTid.l0 k l E l (l.length : Int) (n : Int)) r := by
    intro n hn
    induction hd : l.length - n generalizing n with
    | zero =>
      intro hg
      have h : n = l.length := by omega
      subst h
      refine Ev.step (fun k => ?_) (hall (by simpa using hg))
      simp only [spec_NextTid.l0]
      rw [if_neg (by omega)]
    | succ d ih =>
      intro hg
      have hlt : n < l.length := by omega
      have hx : l[n]? = some l[n] := List.getElem?_eq_getElem hlt
      by_cases c : tidB l[n].f0 l[n].f1 = true
      · refine Ev.step (fun k => ?_) (ih (n + 1) (by omega) (by omega) (fun t ht => ?_))
        · simp only [spec_NextTid.l0]
          rw [if_pos (by omega), if_pos (by omega), if_pos (by omega), rd26 hx, l1Tid_f, c, wrap_nat (by omega)]
          simp
        · rw [List.take_succ_eq_append_getElem hlt] at ht
          rcases List.mem_append.1 ht with h | h
          · exact hg t h
          · simp at h; subst h; exact c
      · rw [hsome ⟨_, List.getElem_mem hlt, c⟩]
        refine Ev.step (fun k => ?_) (ev_some _)
        simp only [spec_NextTid.l0]
        rw [if_pos (by omega), if_pos (by omega), if_pos (by omega), rd26 hx, l1Tid_f]
        simp [c]
  exact key 0 (by omega) (fun t ht => by simp at ht)
/-- The two functions agree. -/
theorem agree (l : List S26) (E : Int) (hl : l.length ≤ 1048576) : ∃ r : R4, Ev (fun k => spec_NextTid.f k l E) r ∧ Ev (fun k => impl_NextTid.f k l E) r := by
  unfold spec_NextTid.f impl_NextTid.f
  by_cases c : (l.length : Int) > 60
  · simp only [if_pos c]
    exact ⟨_, ev_last (fun k => by simp only [spec_NextTid.j0, if_true]; rfl), ev_last (fun k => by simp only [impl_NextTid.j0, if_true])⟩
  · simp only [if_neg c, l1In_f, in_f, Option.bind_some]
    have hl' : l.length ≤ 60 := by omega
    by_cases hE : 0 ≤ E ∧ E ≤ 1048575
    · simp only [hE, and_self, decide_true, Bool.not_true]
      by_cases hg : ∀ t ∈ l, good t
      · obtain ⟨e', s', f, h, h'⟩ := same l E hl' hg 0 (by omega) 0 (by omega) (by omega)
        have e0 : ((0 : Nat) : Int) = 0 := rfl
        rw [e0] at h h'
        refine ⟨if f = true then (e', s', false, true) else (0, 0, false, false), Ev.step (fun k => by simp only [spec_NextTid.j0, Bool.false_eq_true, if_false]) (spec_first l E hl' _ (fun _ => ?_) (fun hs => ?_)), Ev.step (fun k => by simp only [impl_NextTid.j0, Bool.false_eq_true, if_false]) h'⟩
        · refine Ev.bind (a := (e', s', false, f)) (by simpa only [spec_l1Next.f] using h) ?_
          cases f <;> exact ev_some _
        · obtain ⟨t, ht, hb⟩ := hs
          exact absurd (hg t ht) hb
      · have hs : ∃ t ∈ l, ¬ good t := by
          by_cases h : ∃ t ∈ l, ¬ good t
          · exact h
          · exact absurd (fun t ht => by by_cases c : good t; exact c; exact absurd ⟨t, ht, c⟩ h) hg
        refine ⟨(0, 0, false, false), Ev.step (fun k => by simp only [spec_NextTid.j0, Bool.false_eq_true, if_false]) (spec_first l E hl' _ (fun h => absurd h hg) (fun _ => rfl)), Ev.step (f := fun k => impl_NextTid.l0 k E l (l.length : Int) ((0 : Nat) : Int) E 0 false) (fun k => by simp only [impl_NextTid.j0, Bool.false_eq_true, if_false]; rfl) (impl_bad l E hl' 0 (by omega) (by simpa using hs) 0)⟩
    · simp only [hE, decide_false, Bool.not_false]
      exact ⟨_, ev_last (fun k => by simp only [spec_NextTid.j0, if_true]; rfl), ev_last (fun k => by simp only [impl_NextTid.j0, if_true])⟩
theorem FnExactNextTid : laws_FnExactNextTid.Pure := by
  intro l E hb _ _
  have hl : l.length ≤ 140737488355328 := by omega
  apply Ev.rounds
  unfold laws_FnExactNextTid.f
  simp only [szTidS_f l 1048576 hl (by omega) (by omega), Option.bind_some]
  by_cases hs : (1048576 : Int) < (l.length : Int)
  · simp only [if_pos hs]
    exact ev_some _
  · simp only [if_neg hs]
    have h2 : ¬ (1048576 - (l.length : Int) < 0) := by omega
    simp only [if_neg h2]
    have hto := toTidS_ev l (by omega)
    have hle : (l.map cvTid).length ≤ 1048576 := by simp; omega
    obtain ⟨r, h3, h4⟩ := agree (l.map cvTid) E hle
    refine Ev.bind hto (Ev.bind h3 (Ev.bind hto (Ev.bind h4 ?_)))
    simp only [eqTid_f, Option.bind_some, if_true, bne_self_eq_false]
    refine ev_shift ?_
    simp only [laws_FnExactNextTid.j0, Bool.false_eq_true, if_false]
    refine Ev.bind hto (Ev.bind (eqTidS_ev _ (by omega)) ?_)
    simpa using ev_some true

end Go.Proofs.Ytjbaakfamepbeaa.Pure
