/- The functional machine: plain words for the pure proofs: what comes out from some fuel on, loops over lists. No condition. -/
import Derived.Test.YtmbcblabfgepfaaDoorFmZ
import Derived.Laws.BitsLemmas
set_option autoImplicit true
set_option linter.unusedVariables false
set_option linter.unusedSimpArgs false
namespace Go.Fm
open Go.RowKit

/-! ### from some fuel on -/
theorem ev_some {α : Type} (r : α) : Ev (fun _ => some r) r := ⟨0, fun _ _ => rfl⟩
theorem ev_congr {α : Type} {g f : Nat → Option α} {r : α} (h : ∀ k, g k = f k) (hf : Ev f r) : Ev g r := by
  obtain ⟨N, hf⟩ := hf
  exact ⟨N, fun k hk => (h k).trans (hf k hk)⟩
theorem ev_uniq {α : Type} {g : Nat → Option α} {a b : α} (h : Ev g a) (h' : Ev g b) : a = b := by
  obtain ⟨N, h⟩ := h
  obtain ⟨M, h'⟩ := h'
  have h1 := h (max N M) (by omega)
  rw [h' (max N M) (by omega)] at h1
  exact (Option.some.inj h1).symm
theorem ev_shift {α : Type} {g : Nat → Option α} {r : α} (h : Ev (fun k => g (k + 1)) r) : Ev g r := Ev.succ h
theorem ev_last {α : Type} {g : Nat → Option α} {r : α} (h : ∀ k, g (k + 1) = some r) : Ev g r := ev_shift (ev_congr h (ev_some r))
theorem ev_bind {α β : Type} {g : Nat → Option α} {f : Nat → α → Option β} {a : α} {r : β} (h : Ev g a) (k : Ev (fun n => f n a) r) : Ev (fun n => (g n).bind (f n)) r := Ev.bind h k
theorem ev_ite {α : Type} {c : Prop} [Decidable c] {g f : Nat → Option α} {r : α} (h : c → Ev g r) (k : ¬ c → Ev f r) : Ev (fun n => if c then g n else f n) r := by
  by_cases hc : c
  · simpa [hc] using h hc
  · simpa [hc] using k hc
theorem ev_if_pos {α : Type} {c : Prop} [Decidable c] {g f : Nat → Option α} {r : α} (hc : c) (h : Ev g r) : Ev (fun n => if c then g n else f n) r := ev_ite (fun _ => h) (fun n => absurd hc n)
theorem ev_if_neg {α : Type} {c : Prop} [Decidable c] {g f : Nat → Option α} {r : α} (hc : ¬ c) (h : Ev f r) : Ev (fun n => if c then g n else f n) r := ev_ite (fun n => absurd n hc) (fun _ => h)
theorem ev_fuel {α : Type} {g : Nat → Option α} {r : α} (h : Ev g r) : ∃ k, g k = some r := by
  obtain ⟨N, h⟩ := h
  exact ⟨N, h N (Nat.le_refl _)⟩
/-! as rules -/
theorem ev_ite_iff {α : Type} {c : Prop} [Decidable c] {g f : Nat → Option α} {r : α} : Ev (fun n => if c then g n else f n) r ↔ if c then Ev g r else Ev f r := by
  by_cases hc : c <;> simp [hc]
theorem ev_some_iff {α : Type} {a r : α} : Ev (fun _ => some a) r ↔ a = r := ⟨fun h => ev_uniq (ev_some a) h, fun h => h ▸ ev_some a⟩
theorem ev_none_iff {α : Type} {r : α} : Ev (fun _ => (none : Option α)) r ↔ False := ⟨fun h => (by obtain ⟨N, h⟩ := h; cases h N (Nat.le_refl _)), False.elim⟩
theorem ev_bind_iff {α β : Type} {g : Nat → Option α} {f : Nat → α → Option β} {a : α} {r : β} (h : Ev g a) : Ev (fun n => (g n).bind (f n)) r ↔ Ev (fun n => f n a) r := by
  obtain ⟨N, h⟩ := h
  constructor
  · rintro ⟨M, h'⟩
    refine ⟨max N M, fun k hk => ?_⟩
    have : (g k).bind (f k) = some r := h' k (by omega)
    rwa [h k (by omega)] at this
  · rintro ⟨M, h'⟩
    refine ⟨max N M, fun k hk => ?_⟩
    show (g k).bind (f k) = some r
    rw [h k (by omega)]
    exact h' k (by omega)
theorem ev_bind_some_iff {α β : Type} {f : Nat → α → Option β} {a : α} {r : β} : Ev (fun n => (some a).bind (f n)) r ↔ Ev (fun n => f n a) r := Iff.rfl

/-! ### numbers -/
theorem wrap_of {x : Int} (h0 : -9223372036854775808 ≤ x) (h1 : x ≤ 9223372036854775807) : wrap64 x = x := by unfold wrap64; omega
theorem wrap_nat {n : Nat} (h : n < 9223372036854775807) : wrap64 ((n : Int) + 1) = ((n + 1 : Nat) : Int) := by unfold wrap64; omega
theorem wrap_pred {n : Nat} (h : n < 9223372036854775807) : wrap64 ((n : Int) - 1) = (n : Int) - 1 := by unfold wrap64; omega

/-! ### reads -/
theorem rdT_get {e : Kind} {l : List e.T} {n : Nat} {x : e.T} (h : l[n]? = some x) : rdT e l (n : Int) = x := by simp [rdT, h]
theorem rdT_lt {e : Kind} {l : List e.T} {n : Nat} (h : n < l.length) : rdT e l (n : Int) = l[n] := rdT_get (List.getElem?_eq_getElem h)

theorem rdT_set {e : Kind} {l : List e.T} {n : Nat} {x : e.T} (h : n < l.length) : rdT e (l.set n x) (n : Int) = x := by
  refine rdT_get ?_
  rw [List.getElem?_set_self (by simpa using h)]

/-! ### parts of elements stored -/
theorem upAt_get {e k : Kind} {p : List Nat} {y : k.T} {l : List e.T} {n : Nat} {x w : e.T} (hx : l[n]? = some x) (hu : upds p ⟨k, y⟩ e x = some w) : upAt e p k y l (n : Int) = l.set n w := by
  rw [upAt_def, rdT_get hx, hu]
  simp
theorem upAt_set {e k : Kind} {p : List Nat} {y : k.T} {l : List e.T} {n : Nat} {z w : e.T} (hn : n < l.length) (hu : upds p ⟨k, y⟩ e z = some w) : upAt e p k y (l.set n z) (n : Int) = l.set n w := by
  rw [upAt_def, rdT_set hn, hu]
  simp
theorem upAt_len {e k : Kind} {p : List Nat} {y : k.T} {l : List e.T} {i : Int} : (upAt e p k y l i).length = l.length := by
  rw [upAt_def]
  split <;> simp
/-! ### loops over lists -/
/-- From the front: what is to be shown at place n speaks of what is left. -/
theorem drop_ind {α : Type} (xs : List α) (M : Nat → List α → Prop) (hnil : M xs.length []) (hcons : ∀ n x rest, n < xs.length → xs[n]? = some x → xs.drop n = x :: rest → M (n + 1) rest → M n (x :: rest)) :
    ∀ n, n ≤ xs.length → M n (xs.drop n) := by
  intro n hn
  induction hd : xs.length - n generalizing n with
  | zero =>
    have e : n = xs.length := by omega
    subst e
    rw [List.drop_length]
    exact hnil
  | succ d ih =>
    have hlt : n < xs.length := by omega
    have hx : xs.drop n = xs[n] :: xs.drop (n + 1) := List.drop_eq_getElem_cons hlt
    rw [hx]
    exact hcons n _ _ hlt (List.getElem?_eq_getElem hlt) hx (ih (n + 1) (by omega) (by omega))
theorem drop_ind0 {α : Type} (xs : List α) (M : Nat → List α → Prop) (hnil : M xs.length []) (hcons : ∀ n x rest, n < xs.length → xs[n]? = some x → xs.drop n = x :: rest → M (n + 1) rest → M n (x :: rest)) : M 0 xs := by
  have := drop_ind xs M hnil hcons 0 (by omega)
  simpa using this
theorem drop_next {α : Type} {xs : List α} {n : Nat} {x : α} {rest : List α} (h : xs.drop n = x :: rest) : xs.drop (n + 1) = rest := by
  rw [← List.tail_drop, h]; rfl
theorem take_snoc {α : Type} {l : List α} {n : Nat} {x : α} (h : l[n]? = some x) : l.take (n + 1) = l.take n ++ [x] := by
  obtain ⟨hn, rfl⟩ := List.getElem?_eq_some_iff.1 h
  exact List.take_succ_eq_append_getElem hn
/-- Where the first is, -1 for nowhere. -/
def idxFrom {α : Type} (p : α → Bool) : Nat → List α → Int
  | _, [] => -1
  | n, x :: l => if p x = true then (n : Int) else idxFrom p (n + 1) l
/-- From behind. -/
theorem snoc_ind {α : Type} {P : List α → Prop} (nil : P []) (snoc : ∀ l x, P l → P (l ++ [x])) (l : List α) : P l := by
  have h : ∀ n (l : List α), l.length = n → P l := by
    intro n
    induction n with
    | zero => intro l hl; rw [List.length_eq_zero_iff.1 hl]; exact nil
    | succ n ih =>
      intro l hl
      have hne : l ≠ [] := fun h => by subst h; cases hl
      rw [← List.dropLast_concat_getLast hne]
      exact snoc _ _ (ih _ (by simp [hl]))
  exact h _ l rfl
/-- Upwards to m. -/
theorem up_ind (m : Nat) (M : Nat → Prop) (hd : M m) (hs : ∀ n, n < m → M (n + 1) → M n) : ∀ n, n ≤ m → M n := by
  intro n hn
  induction hk : m - n generalizing n with
  | zero => have : n = m := by omega
            subst this; exact hd
  | succ d ih => exact hs n (by omega) (ih (n + 1) (by omega) (by omega))
/-- A loop that carries a state: body's one round, from the front. -/
theorem loop_list {α σ R : Type} (l : List α) (H : Nat → σ → Int → Option R) (g : σ → List α → R) (I : σ → Nat → Prop)
    (hend : ∀ s, I s l.length → Ev (fun k => H k s (l.length : Int)) (g s []))
    (hstep : ∀ s (n : Nat) x rest, n < l.length → l[n]? = some x → l.drop n = x :: rest → I s n → (∀ s', I s' (n + 1) → Ev (fun k => H k s' ((n + 1 : Nat) : Int)) (g s' rest)) → Ev (fun k => H k s (n : Int)) (g s (x :: rest))) :
    ∀ s, I s 0 → Ev (fun k => H k s 0) (g s l) := by
  have := drop_ind0 l (fun n rest => ∀ s, I s n → Ev (fun k => H k s (n : Int)) (g s rest)) hend (fun n x rest hn hx hd ih s hs => hstep s n x rest hn hx hd hs ih)
  simpa using this

/-! ### the laws' own functions: shapes -/
section
variable {e : Kind} {β : Type}
/-- copies -/
theorem to_row {d : Kind} {F : Nat → e.T → Option d.T} {H : Nat → List e.T → List d.T → Int → Option (List d.T)} {cv : e.T → d.T} {l : List e.T} {z : d.T}
    (hs : ∀ k l r i, H (k + 1) l r i = if i < (l.length : Int) then if 0 ≤ i then if i < (l.length : Int) then (F k (rdT e l i)).bind fun t => if 0 ≤ i then if i < (r.length : Int) then H k l (r.set i.toNat t) (wrap64 (i + 1)) else none else none else none else none else some r)
    (hF : ∀ x ∈ l, Ev (fun k => F k x) (cv x)) (hl : l.length < 9223372036854775807) : Ev (fun k => H k l (List.replicate l.length z) 0) (l.map cv) := by
  have key : ∀ n, n ≤ l.length → ∀ xs : List d.T, xs.length = l.length → (∀ j, j < n → xs[j]? = (l.map cv)[j]?) → Ev (fun k => H k l xs (n : Int)) (l.map cv) := by
    intro n hn
    induction hd : l.length - n generalizing n with
    | zero =>
      intro xs hx hj
      have e : n = l.length := by omega
      subst e
      have : xs = l.map cv := by
        apply List.ext_getElem?
        intro j
        by_cases h : j < l.length
        · exact hj j h
        · rw [List.getElem?_eq_none (by omega), List.getElem?_eq_none (by simp; omega)]
      subst this
      exact ev_last (fun k => by rw [hs, if_neg (by omega)])
    | succ d' ih =>
      intro xs hx hj
      have hlt : n < l.length := by omega
      have hF' := hF l[n] (List.getElem_mem hlt)
      have H' := ih (n + 1) (by omega) (by omega) (xs.set n (cv l[n])) (by simpa using hx) (fun j hjn => by
        by_cases h : j = n
        · subst h
          rw [List.getElem?_set_self (by omega)]
          simp [hlt]
        · rw [List.getElem?_set_ne (by omega)]
          exact hj j (by omega))
      refine ev_shift ?_
      simp only [hs, rdT_lt hlt]
      refine ev_if_pos (by omega) (ev_if_pos (by omega) (ev_if_pos (by omega) (ev_bind hF' (ev_if_pos (by omega) (ev_if_pos (by omega) ?_)))))
      rw [wrap_nat (by omega)]
      exact H'
  have := key 0 (by omega) (List.replicate l.length z) (by simp) (fun j hj => by omega)
  simpa using this
/-- copies of what is not told apart -/
theorem to_row0 {H : Nat → List e.T → List e.T → Int → Option (List e.T)} {l : List e.T} {z : e.T}
    (hs : ∀ k l r i, H (k + 1) l r i = if i < (l.length : Int) then if 0 ≤ i then if i < (l.length : Int) then if 0 ≤ i then if i < (r.length : Int) then H k l (r.set i.toNat (rdT e l i)) (wrap64 (i + 1)) else none else none else none else none else some r)
    (hl : l.length < 9223372036854775807) : Ev (fun k => H k l (List.replicate l.length z) 0) l := by
  have := to_row (d := e) (F := fun _ x => some x) (cv := id) (z := z) (H := H) (l := l) (fun k l r i => by rw [hs]; rfl) (fun x _ => ev_some x) hl
  simpa using this
/-- one against itself -/
theorem eq_row {F : Nat → e.T → e.T → Option Bool} {H : Nat → List e.T → List e.T → Int → Option Bool} {l : List e.T}
    (hs : ∀ k a b i, H (k + 1) a b i = if i < (a.length : Int) then if 0 ≤ i then if i < (a.length : Int) then if 0 ≤ i then if i < (b.length : Int) then (F k (rdT e a i) (rdT e b i)).bind fun t => if (!t) = true then some false else H k a b (wrap64 (i + 1)) else none else none else none else none else some true)
    (hF : ∀ x ∈ l, Ev (fun k => F k x x) true) (hl : l.length < 9223372036854775807) : Ev (fun k => H k l l 0) true := by
  have := up_ind l.length (fun n => Ev (fun k => H k l l (n : Int)) true) (ev_last fun k => by rw [hs, if_neg (by omega)]) (fun n hn ih => ?_) 0 (by omega)
  · simpa using this
  · refine ev_shift ?_
    simp only [hs, rdT_lt hn]
    refine ev_if_pos (by omega) (ev_if_pos (by omega) (ev_if_pos (by omega) (ev_if_pos (by omega) (ev_if_pos (by omega) (ev_bind (hF _ (List.getElem_mem hn)) (ev_if_neg (by simp) ?_))))))
    rw [wrap_nat (by omega)]
    exact ih
theorem eq_row0 {H : Nat → List e.T → List e.T → Int → Option Bool} {l : List e.T} {c : e.T → e.T → Prop} [∀ x y, Decidable (c x y)]
    (hs : ∀ k a b i, H (k + 1) a b i = if i < (a.length : Int) then if 0 ≤ i then if i < (a.length : Int) then if 0 ≤ i then if i < (b.length : Int) then if ¬ c (rdT e a i) (rdT e b i) then some false else H k a b (wrap64 (i + 1)) else none else none else none else none else some true)
    (hc : ∀ x, c x x) (hl : l.length < 9223372036854775807) : Ev (fun k => H k l l 0) true := by
  have := up_ind l.length (fun n => Ev (fun k => H k l l (n : Int)) true) (ev_last fun k => by rw [hs, if_neg (by omega)]) (fun n hn ih => ?_) 0 (by omega)
  · simpa using this
  · refine ev_shift ?_
    simp only [hs, rdT_lt hn]
    refine ev_if_pos (by omega) (ev_if_pos (by omega) (ev_if_pos (by omega) (ev_if_pos (by omega) (ev_if_pos (by omega) (ev_if_neg (by simp [hc]) ?_)))))
    rw [wrap_nat (by omega)]
    exact ih
/-- what elements weigh -/
theorem sz_row {F : Nat → e.T → Int → Option Int} {H : Nat → List e.T → Int → Int → Option Int} {l : List e.T}
    (hs : ∀ k l a i, H (k + 1) l a i = if i < (l.length : Int) then if 0 ≤ i then if i < (l.length : Int) then (F k (rdT e l i) a).bind fun t => if t < 0 then some (-1) else H k l t (wrap64 (i + 1)) else none else none else some a)
    {B : e.T → Prop} (hF : ∀ x ∈ l, ∀ a, 0 ≤ a → a ≤ 1048576 → ∃ v, Ev (fun k => F k x a) v ∧ v ≤ a ∧ (0 ≤ v → B x)) (hl : l.length < 9223372036854775807) :
    ∀ a, 0 ≤ a → a ≤ 1048576 → ∃ v, Ev (fun k => H k l a 0) v ∧ v ≤ a ∧ (0 ≤ v → ∀ x ∈ l, B x) := by
  have := drop_ind0 l (fun n rest => ∀ a, 0 ≤ a → a ≤ 1048576 → ∃ v, Ev (fun k => H k l a (n : Int)) v ∧ v ≤ a ∧ (0 ≤ v → ∀ x ∈ rest, B x)) (fun a _ _ => ⟨a, ev_last (fun k => by rw [hs, if_neg (by omega)]), Int.le_refl _, fun _ x hx => by cases hx⟩) ?_
  · simpa using this
  · intro n x rest hn hx hd ih a h0 h1
    obtain ⟨v, hv, hle, hB⟩ := hF x (List.mem_of_getElem? hx) a h0 h1
    by_cases hneg : v < 0
    · refine ⟨-1, ev_shift ?_, by omega, fun h => by omega⟩
      simp only [hs, rdT_get hx]
      exact ev_if_pos (by omega) (ev_if_pos (by omega) (ev_if_pos (by omega) (ev_bind hv (ev_if_pos hneg (ev_some _)))))
    · obtain ⟨u, hu, hle2, hB2⟩ := ih v (by omega) (by omega)
      refine ⟨u, ev_shift ?_, by omega, fun h y hy => ?_⟩
      · simp only [hs, rdT_get hx]
        refine ev_if_pos (by omega) (ev_if_pos (by omega) (ev_if_pos (by omega) (ev_bind hv (ev_if_neg hneg ?_))))
        rw [wrap_nat (by omega)]
        exact hu
      · rcases List.mem_cons.1 hy with rfl | hy
        · exact hB (by omega)
        · exact hB2 h y hy
/-- and what their number weighs -/
theorem sz_top {F : Nat → List e.T → Int → Option Int} {H : Nat → List e.T → Int → Int → Option Int} {l : List e.T} {B : Prop}
    (hs : ∀ k l a, F k l a = if wrap64 (a - (l.length : Int)) < 0 then some (-1) else H k l (wrap64 (a - (l.length : Int))) 0)
    (hH : ∀ a, 0 ≤ a → a ≤ 1048576 → ∃ v, Ev (fun k => H k l a 0) v ∧ v ≤ a ∧ (0 ≤ v → B)) (hl : l.length ≤ 140737488355328) (a : Int) (h0 : 0 ≤ a) (h1 : a ≤ 1048576) :
    ∃ v, Ev (fun k => F k l a) v ∧ v ≤ a ∧ (0 ≤ v → l.length ≤ 1048576 ∧ B) := by
  have w : wrap64 (a - (l.length : Int)) = a - l.length := wrap_of (by omega) (by omega)
  by_cases hneg : a - (l.length : Int) < 0
  · refine ⟨-1, ?_, by omega, fun h => by omega⟩
    simp only [hs, w]
    exact ev_if_pos hneg (ev_some _)
  · obtain ⟨v, h2, h3, h4⟩ := hH (a - l.length) (by omega) (by omega)
    refine ⟨v, ?_, by omega, fun h => ⟨by omega, h4 h⟩⟩
    simp only [hs, w]
    exact ev_if_neg hneg h2
end

/-! ### marks, whatever the element -/
def mkList {α : Type} (em : Int → α) (m s : Int) (N : Nat) : List α := (List.range N).map (fun i : Nat => em (m + s * (i : Int)))
theorem mkList_get {α : Type} (em : Int → α) (m s : Int) (N n : Nat) (h : n < N) : (mkList em m s N)[n]? = some (em (m + s * (n : Int))) := by simp [mkList, h]
theorem mkList_len {α : Type} (em : Int → α) (m s : Int) (N : Nat) : (mkList em m s N).length = N := by simp [mkList]
theorem mark_loop {α : Type} (L : Nat → List α → Int → Int → Option (List α × Int)) (em : Int → α) (m s : Int) (N : Nat) (hdone : ∀ k xs c, xs.length = N → L (k + 1) xs c (N : Int) = some (xs, c))
    (hstep : ∀ (n : Nat) (xs : List α) r, n < N → xs.length = N → Ev (fun k => L k (xs.set n (em (m + s * (n : Int)))) (m + s * ((n + 1 : Nat) : Int)) ((n + 1 : Nat) : Int)) r → Ev (fun k => L k xs (m + s * (n : Int)) (n : Int)) r) (l : List α) (hl : l.length = N) :
    Ev (fun k => L k l m 0) (mkList em m s N, m + s * (N : Int)) := by
  have key : ∀ n, n ≤ N → ∀ xs : List α, xs.length = N → (∀ j, j < n → xs[j]? = (mkList em m s N)[j]?) → Ev (fun k => L k xs (m + s * (n : Int)) (n : Int)) (mkList em m s N, m + s * (N : Int)) := by
    intro n hn
    induction hd : N - n generalizing n with
    | zero =>
      intro xs hx hj
      have e : n = N := by omega
      subst e
      have : xs = mkList em m s n := by
        apply List.ext_getElem?
        intro j
        by_cases h : j < n
        · exact hj j h
        · rw [List.getElem?_eq_none (by omega), List.getElem?_eq_none (by rw [mkList_len]; omega)]
      subst this
      exact ev_last fun k => hdone k _ _ hx
    | succ d ih =>
      intro xs hx hj
      refine hstep n xs _ (by omega) hx (ih (n + 1) (by omega) (by omega) _ (by simpa using hx) (fun j hjn => ?_))
      by_cases h : j = n
      · subst h
        rw [List.getElem?_set_self (by omega), mkList_get _ _ _ _ _ (by omega)]
      · rw [List.getElem?_set_ne (by omega)]
        exact hj j (by omega)
  have := key 0 (by omega) l hl (fun j hj => by omega)
  simpa using this
theorem held_loop {α : Type} (L : Nat → Int → Int → Option Int) (em : Int → α) (m s : Int) (N : Nat) (hdone : ∀ k c, L (k + 1) c (N : Int) = some c)
    (hstep : ∀ (n : Nat) r, n < N → (mkList em m s N)[n]? = some (em (m + s * (n : Int))) → Ev (fun k => L k (m + s * ((n + 1 : Nat) : Int)) ((n + 1 : Nat) : Int)) r → Ev (fun k => L k (m + s * (n : Int)) (n : Int)) r) :
    Ev (fun k => L k m 0) (m + s * (N : Int)) := by
  have key := up_ind N (fun n => Ev (fun k => L k (m + s * (n : Int)) (n : Int)) (m + s * (N : Int))) (ev_last fun k => hdone k _) (fun n hn ih => hstep n _ hn (mkList_get _ _ _ _ _ hn) ih) 0 (by omega)
  simpa using key
/-! ### texts -/
theorem bt_nat {s : ByteArray} {n : Nat} {b : UInt8} (h : s.data.toList[n]? = some b) : bt s (n : Int) = (b.toNat : Int) := by
  obtain ⟨h1, h2⟩ := List.getElem?_eq_some_iff.mp h
  have h3 : n < s.size := by rw [size_len]; exact h1
  unfold bt
  rw [dif_pos (by simpa using h3)]
  rw [← h2]
  rfl
theorem wraps_u64 (n : Int) (h0 : 0 ≤ n) (h1 : n < 2 ^ 64) : IntKind.wrap .u64 n = n := by
  simp only [IntKind.wrap, IntKind.signed, IntKind.bits]
  simp
  omega
end Go.Fm
