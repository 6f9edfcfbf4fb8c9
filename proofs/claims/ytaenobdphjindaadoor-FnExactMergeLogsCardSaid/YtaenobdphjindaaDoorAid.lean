/- Plain words for the pure proofs of this seat: numbers that do not wrap, loops over a list, copies, marks. No condition. -/
import Derived.Test.YtaenobdphjindaaDoorWMore
import Derived.Laws.BitsLemmas
import Derived.OpenShut
namespace Go.Proofs.YtaenobdphjindaaDoor.Aid
open Go.RowKit Go.Proofs.YtaenobdphjindaaDoorW.PrintWords Go.Proofs.YtaenobdphjindaaDoorW.PrintLast
set_option linter.unusedSimpArgs false
set_option linter.unusedVariables false

theorem wrap_of {x : Int} (h0 : -9223372036854775808 ≤ x) (h1 : x ≤ 9223372036854775807) : wrap64 x = x := by unfold wrap64; omega
theorem wrap_nat {n : Nat} (h : n < 9223372036854775807) : wrap64 ((n : Int) + 1) = ((n + 1 : Nat) : Int) := by unfold wrap64; omega
theorem getD_some {α : Type} {xs : List α} {n : Nat} {x : α} (h : xs[n]? = some x) (d : α) : xs.getD n d = x := by simp [h]
theorem getD_int {α : Type} {xs : List α} {n : Nat} {x : α} (h : xs[n]? = some x) (d : α) : xs.getD ((n : Int).toNat) d = x := by simp [h]
theorem rd_nat {xs : List Int} {n : Nat} {x : Int} (h : xs[n]? = some x) : rd xs (n : Int) = x := by simp [rd, h]
theorem ev_some {α : Type} (r : α) : Ev (fun _ => some r) r := Ev.now r
/-- A call without rounds, or one whose rounds do not count here, ahead of what follows. -/
theorem ev_bind {α β : Type} {g : Nat → Option α} {f : Nat → α → Option β} {a : α} {r : β} (h : Ev g a) (k : Ev (fun n => f n a) r) : Ev (fun n => (g n).bind (f n)) r := Ev.bind h k
theorem ev_ite {α : Type} {c : Prop} [Decidable c] {g f : Nat → Option α} {r : α} (h : c → Ev g r) (k : ¬ c → Ev f r) : Ev (fun n => if c then g n else f n) r := by
  by_cases hc : c
  · simpa [hc] using h hc
  · simpa [hc] using k hc
theorem ev_if_pos {α : Type} {c : Prop} [Decidable c] {g f : Nat → Option α} {r : α} (hc : c) (h : Ev g r) : Ev (fun n => if c then g n else f n) r := ev_ite (fun _ => h) (fun n => absurd hc n)
theorem ev_if_neg {α : Type} {c : Prop} [Decidable c] {g f : Nat → Option α} {r : α} (hc : ¬ c) (h : Ev f r) : Ev (fun n => if c then g n else f n) r := ev_ite (fun n => absurd n hc) (fun _ => h)
theorem ev_pair {α β : Type} {g : Nat → Option α} {f : Nat → Option β} {r : α} {q : β} (h : Ev g r) (k : Ev f q) : ∃ K, ∀ n, K ≤ n → g n = some r ∧ f n = some q := by
  obtain ⟨a, ha⟩ := h
  obtain ⟨b, hb⟩ := k
  exact ⟨max a b, fun n hn => ⟨ha n (by omega), hb n (by omega)⟩⟩

/-- One round more. -/
theorem ev_shift {α : Type} {g : Nat → Option α} {r : α} (h : Ev (fun k => g (k + 1)) r) : Ev g r := Ev.step (f := fun k => g (k + 1)) (fun _ => rfl) h
theorem ev_last {α : Type} {g : Nat → Option α} {r : α} (h : ∀ k, g (k + 1) = some r) : Ev g r := Ev.step (f := fun _ => some r) h (ev_some r)
/-- A loop over a list, from the front: what is to be shown at place n speaks of what is left. -/
theorem drop_ind {α : Type} (xs : List α) (M : Nat → List α → Prop) (hnil : M xs.length []) (hcons : ∀ n x rest, n < xs.length → xs[n]? = some x → xs.drop n = x :: rest → M (n + 1) rest → M n (x :: rest)) :
    ∀ n, n ≤ xs.length → M n (xs.drop n) := by
  intro n hn
  induction hd : xs.length - n generalizing n with
  | zero =>
    have e : n = xs.length := by omega
    subst e
    rw [List.drop_length]
    exact hnil
  | succ d ih =>
    have hlt : n < xs.length := by omega
    have hx : xs.drop n = xs[n] :: xs.drop (n + 1) := List.drop_eq_getElem_cons hlt
    rw [hx]
    exact hcons n _ _ hlt (List.getElem?_eq_getElem hlt) hx (ih (n + 1) (by omega) (by omega))
theorem drop_ind0 {α : Type} (xs : List α) (M : Nat → List α → Prop) (hnil : M xs.length []) (hcons : ∀ n x rest, n < xs.length → xs[n]? = some x → xs.drop n = x :: rest → M (n + 1) rest → M n (x :: rest)) : M 0 xs := by
  have := drop_ind xs M hnil hcons 0 (by omega)
  simpa using this

/-- 'out := make(..); for i { out[i] = to(a[i]) }' -/
theorem fill_loop {α β : Type} (L : Nat → List β → Int → Option (List β)) (l : List α) (cv : α → β)
    (hdone : ∀ k xs, L (k + 1) xs (l.length : Int) = some xs)
    (hstep : ∀ (n : Nat) (x : α) (xs : List β), l[n]? = some x → n < l.length → xs.length = l.length → Ev (fun k => L k (xs.set n (cv x)) ((n + 1 : Nat) : Int)) (l.map cv) → Ev (fun k => L k xs (n : Int)) (l.map cv)) (z : β) :
    Ev (fun k => L k (List.replicate l.length z) 0) (l.map cv) := by
  have key : ∀ n, n ≤ l.length → ∀ xs : List β, xs.length = l.length → (∀ j, j < n → xs[j]? = (l.map cv)[j]?) → Ev (fun k => L k xs (n : Int)) (l.map cv) := by
    intro n hn
    induction hd : l.length - n generalizing n with
    | zero =>
      intro xs hx hj
      have e : n = l.length := by omega
      subst e
      have : xs = l.map cv := by
        apply List.ext_getElem?
        intro j
        by_cases h : j < l.length
        · exact hj j h
        · rw [List.getElem?_eq_none (by omega), List.getElem?_eq_none (by simp; omega)]
      subst this
      exact Ev.step (fun k => hdone k _) (ev_some _)
    | succ d ih =>
      intro xs hx hj
      have hlt : n < l.length := by omega
      refine hstep n l[n] xs (List.getElem?_eq_getElem hlt) hlt hx ?_
      refine ih (n + 1) (by omega) (by omega) _ (by simpa using hx) (fun j hjn => ?_)
      by_cases h : j = n
      · subst h
        rw [List.getElem?_set_self (by omega)]
        simp [hlt]
      · rw [List.getElem?_set_ne (by omega)]
        exact hj j (by omega)
  have := key 0 (by omega) (List.replicate l.length z) (by simp) (fun j hj => by omega)
  simpa using this

/-- 'for i { if a[i] differs from b[i] { return false } }; return true', both of one length. -/
theorem eq_loop {α β : Type} (L : Nat → Int → Option Bool) (a : List α) (b : List β) (e : α → β → Bool) (hlen : a.length = b.length)
    (hdone : ∀ k, L (k + 1) (a.length : Int) = some true)
    (hyes : ∀ (n : Nat) x y r, a[n]? = some x → b[n]? = some y → n < a.length → n < b.length → e x y = true → Ev (fun k => L k ((n + 1 : Nat) : Int)) r → Ev (fun k => L k (n : Int)) r)
    (hno : ∀ (n : Nat) x y, a[n]? = some x → b[n]? = some y → n < a.length → n < b.length → e x y = false → Ev (fun k => L k (n : Int)) false) :
    Ev (fun k => L k 0) ((a.zip b).all fun p => e p.1 p.2) := by
  have key : ∀ n, n ≤ a.length → Ev (fun k => L k (n : Int)) (((a.drop n).zip (b.drop n)).all fun p => e p.1 p.2) := by
    intro n hn
    induction hd : a.length - n generalizing n with
    | zero =>
      have h : n = a.length := by omega
      subst h
      rw [List.drop_length]
      exact Ev.step (fun k => hdone k) (ev_some _)
    | succ d ih =>
      have hlt : n < a.length := by omega
      have hlt' : n < b.length := by omega
      rw [List.drop_eq_getElem_cons hlt, List.drop_eq_getElem_cons hlt', List.zip_cons_cons, List.all_cons]
      cases h : e a[n] b[n] with
      | true =>
        simpa using hyes n _ _ _ (List.getElem?_eq_getElem hlt) (List.getElem?_eq_getElem hlt') hlt hlt' h (ih (n + 1) (by omega) (by omega))
      | false =>
        simpa using hno n _ _ (List.getElem?_eq_getElem hlt) (List.getElem?_eq_getElem hlt') hlt hlt' h
  have := key 0 (by omega)
  simpa using this
/-- A list against itself. -/
theorem zip_self_all {α : Type} (e : α → α → Bool) (he : ∀ x, e x x = true) (l : List α) : ((l.zip l).all fun p => e p.1 p.2) = true := by
  induction l with
  | nil => rfl
  | cons x l ih => simp [he, ih]

/-- 'for i { if p(a[i]) { return i } }; return -1' -/
theorem idx_loop {α : Type} (L : Nat → Int → Option Int) (l : List α) (p : α → Bool) (hdone : ∀ k, L (k + 1) (l.length : Int) = some (-1))
    (hyes : ∀ (n : Nat) x, l[n]? = some x → n < l.length → p x = true → Ev (fun k => L k (n : Int)) (n : Int))
    (hno : ∀ (n : Nat) x r, l[n]? = some x → n < l.length → p x = false → Ev (fun k => L k ((n + 1 : Nat) : Int)) r → Ev (fun k => L k (n : Int)) r) :
    ∃ r, Ev (fun k => L k 0) r ∧ decide (r ≥ 0) = l.any p := by
  have key : ∀ n, n ≤ l.length → ∃ r, Ev (fun k => L k (n : Int)) r ∧ decide (r ≥ 0) = (l.drop n).any p := by
    intro n hn
    induction hd : l.length - n generalizing n with
    | zero =>
      have h : n = l.length := by omega
      subst h
      rw [List.drop_length]
      exact ⟨-1, ev_last hdone, by simp⟩
    | succ d ih =>
      have hlt : n < l.length := by omega
      rw [List.drop_eq_getElem_cons hlt, List.any_cons]
      cases h : p l[n] with
      | true => exact ⟨n, hyes n _ (List.getElem?_eq_getElem hlt) hlt h, by simp⟩
      | false =>
        obtain ⟨r, h1, h2⟩ := ih (n + 1) (by omega) (by omega)
        exact ⟨r, hno n _ r (List.getElem?_eq_getElem hlt) hlt h h1, by rw [h2]; simp⟩
  have := key 0 (by omega)
  simpa using this

/-! ### what is said of a letter by its place: marks -/
def upFrom (m : Int) : Nat → List Int
  | 0 => []
  | n + 1 => m :: upFrom (m + 1) n
theorem upFrom_length (n : Nat) : ∀ m, (upFrom m n).length = n := by
  induction n with
  | zero => intro m; rfl
  | succ n ih => intro m; simp [upFrom, ih]
theorem upFrom_get (n : Nat) : ∀ (m : Int) (j : Nat), j < n → (upFrom m n)[j]? = some (m + j) := by
  induction n with
  | zero => intro m j h; omega
  | succ n ih =>
    intro m j h
    cases j with
    | zero => simp [upFrom]
    | succ j => simp [upFrom, ih (m + 1) j (by omega)]; omega

/-! ### bits -/
theorem wraps_u64 (n : Int) (h0 : 0 ≤ n) (h1 : n < 2 ^ 64) : IntKind.wrap .u64 n = n := by
  simp only [IntKind.wrap, IntKind.signed, IntKind.bits]
  simp
  omega
theorem and_mask24 (x : Int) (h0 : 0 ≤ x) (h1 : x < 18446744073709551616) : Go.bits .and .u64 x 16777215 = x % 16777216 := bits_mask .u64 64 (by decide) wraps_u64 24 (by decide) x h0 (by omega)
theorem and_one (x : Int) (h0 : 0 ≤ x) (h1 : x < 18446744073709551616) : Go.bits .and .u64 x 1 = x % 2 := bits_mask .u64 64 (by decide) wraps_u64 1 (by decide) x h0 (by omega)

/-! ### texts: bytes -/
theorem toList_loop (t : ByteArray) (i : Nat) (r : List UInt8) : ByteArray.toList.loop t i r = r.reverse ++ t.data.toList.drop i := by
  induction hd : t.size - i generalizing i r with
  | zero =>
    rw [ByteArray.toList.loop]
    have h : ¬ i < t.size := by omega
    rw [if_neg h]
    have : t.data.toList.drop i = [] := List.drop_eq_nil_of_le (by rw [Array.length_toList, ByteArray.size_data]; omega)
    simp [this]
  | succ d ih =>
    rw [ByteArray.toList.loop]
    have h : i < t.size := by omega
    have h' : i < t.data.toList.length := by rw [Array.length_toList, ByteArray.size_data]; exact h
    rw [if_pos h, ih (i + 1) _ (by omega), List.drop_eq_getElem_cons h']
    have e : t.get! i = t.data.toList[i] := by
      have h2 : i < t.data.size := by rw [ByteArray.size_data]; exact h
      simp only [ByteArray.get!, getElem!_pos t.data i h2, Array.getElem_toList]
    rw [e]
    simp
theorem toList_data (t : ByteArray) : t.toList = t.data.toList := by
  unfold ByteArray.toList
  rw [toList_loop]
  simp
theorem size_len (t : ByteArray) : t.size = t.data.toList.length := by rw [Array.length_toList, ByteArray.size_data]
theorem bt_nat {s : ByteArray} {n : Nat} {b : UInt8} (h : s.data.toList[n]? = some b) : bt s (n : Int) = (b.toNat : Int) := by
  obtain ⟨h1, h2⟩ := List.getElem?_eq_some_iff.mp h
  have h3 : n < s.size := by rw [size_len]; exact h1
  unfold bt
  rw [dif_pos (by simpa using h3)]
  rw [← h2]
  rfl
/-- 'for i { if !p(a[i]) { return false } }; return fin' -/
theorem all_loop {α : Type} (L : Nat → Int → Option Bool) (l : List α) (p : α → Bool) (fin : Bool) (hdone : Ev (fun k => L k (l.length : Int)) fin)
    (hyes : ∀ (n : Nat) x r, l[n]? = some x → n < l.length → p x = true → Ev (fun k => L k ((n + 1 : Nat) : Int)) r → Ev (fun k => L k (n : Int)) r)
    (hno : ∀ (n : Nat) x, l[n]? = some x → n < l.length → p x = false → Ev (fun k => L k (n : Int)) false) :
    Ev (fun k => L k 0) (l.all p && fin) := by
  have key : ∀ n, n ≤ l.length → Ev (fun k => L k (n : Int)) ((l.drop n).all p && fin) := by
    intro n hn
    induction hd : l.length - n generalizing n with
    | zero =>
      have h : n = l.length := by omega
      subst h
      rw [List.drop_length]
      simpa using hdone
    | succ d ih =>
      have hlt : n < l.length := by omega
      rw [List.drop_eq_getElem_cons hlt, List.all_cons]
      cases h : p l[n] with
      | true => simpa using hyes n _ _ (List.getElem?_eq_getElem hlt) hlt h (ih (n + 1) (by omega) (by omega))
      | false => simpa using hno n _ (List.getElem?_eq_getElem hlt) hlt h
  have := key 0 (by omega)
  simpa using this
/-- 'left -= what each weighs': some number comes out. -/
theorem sz_loop {α : Type} (L : Nat → Int → Int → Option Int) (S : α → Int → Option Int) (l : List α) (hS : ∀ x ∈ l, ∀ a, 0 ≤ a → a ≤ 1048576 → ∃ v, S x a = some v ∧ v ≤ 1048576)
    (hdone : ∀ k a, L (k + 1) a (l.length : Int) = some a) (hstep : ∀ k (n : Nat) x a v, l[n]? = some x → n < l.length → S x a = some v → L (k + 1) a (n : Int) = if v < 0 then some (-1) else L k v ((n + 1 : Nat) : Int)) :
    ∀ a, 0 ≤ a → a ≤ 1048576 → ∃ v, Ev (fun k => L k a 0) v := by
  have key : ∀ d n, n + d = l.length → ∀ a, 0 ≤ a → a ≤ 1048576 → ∃ v, Ev (fun k => L k a (n : Int)) v := by
    intro d
    induction d with
    | zero =>
      intro n hn a _ _
      have : n = l.length := by omega
      subst this
      exact ⟨a, ev_last fun k => hdone k a⟩
    | succ d ih =>
      intro n hn a h0 h1
      have hlt : n < l.length := by omega
      have hx : l[n]? = some l[n] := List.getElem?_eq_getElem hlt
      obtain ⟨v, hv, hv1⟩ := hS _ (List.getElem_mem hlt) a h0 h1
      by_cases hneg : v < 0
      · exact ⟨-1, ev_last fun k => by rw [hstep k n _ a v hx hlt hv, if_pos hneg]⟩
      · obtain ⟨r, hr⟩ := ih (n + 1) (by omega) v (by omega) hv1
        refine ⟨r, ev_shift (Ev.congr (fun k => ?_) hr)⟩
        rw [hstep k n _ a v hx hlt hv, if_neg hneg]
  intro a h0 h1
  simpa using key l.length 0 (by omega) a h0 h1
theorem ev_exists_neg {g : Nat → Option Int} {c : Int} {f : Nat → Option Int} (hg : ∀ k, g k = if c < 0 then some (-1) else f k) (h : ¬ c < 0 → ∃ v, Ev f v) : ∃ v, Ev g v ∧ (c < 0 → v < 0) := by
  by_cases hc : c < 0
  · exact ⟨-1, Ev.congr (fun k => by rw [hg, if_pos hc]) (ev_some _), fun _ => by omega⟩
  · obtain ⟨v, hv⟩ := h hc
    exact ⟨v, Ev.congr (fun k => by rw [hg, if_neg hc]) hv, fun h => absurd h hc⟩
theorem ev_gate {c : Prop} [Decidable c] {g : Nat → Option Bool} {a b : Bool} (hc : c ↔ a = true) (h : a = true → Ev g b) : Ev (fun k => if c then g k else some false) (a && b) := by
  cases ha : a with
  | true => rw [Bool.true_and]; exact ev_if_pos (hc.mpr ha) (h ha)
  | false => rw [Bool.false_and]; exact ev_if_neg (fun x => by rw [hc.mp x] at ha; cases ha) (ev_some _)
theorem take_snoc {α : Type} {l : List α} {n : Nat} {x : α} (h : l[n]? = some x) : l.take (n + 1) = l.take n ++ [x] := by
  obtain ⟨hn, rfl⟩ := List.getElem?_eq_some_iff.1 h
  exact List.take_succ_eq_append_getElem hn
/-- Upwards to m. -/
theorem up_ind (m : Nat) (M : Nat → Prop) (hd : M m) (hs : ∀ n, n < m → M (n + 1) → M n) : ∀ n, n ≤ m → M n := by
  intro n hn
  induction hk : m - n generalizing n with
  | zero => have : n = m := by omega
            subst this; exact hd
  | succ d ih => exact hs n (by omega) (ih (n + 1) (by omega) (by omega))
/-! ### marks, whatever the element -/
def mkList {α : Type} (em : Int → α) (m s : Int) (N : Nat) : List α := (List.range N).map (fun i : Nat => em (m + s * (i : Int)))
theorem mkList_get {α : Type} (em : Int → α) (m s : Int) (N n : Nat) (h : n < N) : (mkList em m s N)[n]? = some (em (m + s * (n : Int))) := by simp [mkList, h]
theorem mkList_len {α : Type} (em : Int → α) (m s : Int) (N : Nat) : (mkList em m s N).length = N := by simp [mkList]
theorem mark_loop {α : Type} (L : Nat → List α → Int → Int → Option (Int × List α)) (em : Int → α) (m s : Int) (N : Nat) (hdone : ∀ k xs c, xs.length = N → L (k + 1) xs c (N : Int) = some (c, xs))
    (hstep : ∀ (n : Nat) (xs : List α) r, n < N → xs.length = N → Ev (fun k => L k (xs.set n (em (m + s * (n : Int)))) (m + s * ((n + 1 : Nat) : Int)) ((n + 1 : Nat) : Int)) r → Ev (fun k => L k xs (m + s * (n : Int)) (n : Int)) r) (l : List α) (hl : l.length = N) :
    Ev (fun k => L k l m 0) (m + s * (N : Int), mkList em m s N) := by
  have key : ∀ n, n ≤ N → ∀ xs : List α, xs.length = N → (∀ j, j < n → xs[j]? = (mkList em m s N)[j]?) → Ev (fun k => L k xs (m + s * (n : Int)) (n : Int)) (m + s * (N : Int), mkList em m s N) := by
    intro n hn
    induction hd : N - n generalizing n with
    | zero =>
      intro xs hx hj
      have e : n = N := by omega
      subst e
      have : xs = mkList em m s n := by
        apply List.ext_getElem?
        intro j
        by_cases h : j < n
        · exact hj j h
        · rw [List.getElem?_eq_none (by omega), List.getElem?_eq_none (by rw [mkList_len]; omega)]
      subst this
      exact ev_last fun k => hdone k _ _ hx
    | succ d ih =>
      intro xs hx hj
      refine hstep n xs _ (by omega) hx (ih (n + 1) (by omega) (by omega) _ (by simpa using hx) (fun j hjn => ?_))
      by_cases h : j = n
      · subst h
        rw [List.getElem?_set_self (by omega), mkList_get _ _ _ _ _ (by omega)]
      · rw [List.getElem?_set_ne (by omega)]
        exact hj j (by omega)
  have := key 0 (by omega) l hl (fun j hj => by omega)
  simpa using this
theorem held_loop {α : Type} (L : Nat → Int → Int → Option Int) (em : Int → α) (m s : Int) (N : Nat) (hdone : ∀ k c, L (k + 1) c (N : Int) = some c)
    (hstep : ∀ (n : Nat) r, n < N → (mkList em m s N)[n]? = some (em (m + s * (n : Int))) → Ev (fun k => L k (m + s * ((n + 1 : Nat) : Int)) ((n + 1 : Nat) : Int)) r → Ev (fun k => L k (m + s * (n : Int)) (n : Int)) r) :
    Ev (fun k => L k m 0) (m + s * (N : Int)) := by
  have key := up_ind N (fun n => Ev (fun k => L k (m + s * (n : Int)) (n : Int)) (m + s * (N : Int))) (ev_last fun k => hdone k _) (fun n hn ih => hstep n _ hn (mkList_get _ _ _ _ _ hn) ih) 0 (by omega)
  simpa using key
/-- The same, and what comes out is no more than what there was. -/
theorem sz_loop2 {α : Type} (L : Nat → Int → Int → Option Int) (S : α → Int → Option Int) (l : List α) (hS : ∀ x ∈ l, ∀ a, 0 ≤ a → a ≤ 1048576 → ∃ v, S x a = some v ∧ v ≤ 1048576)
    (hdone : ∀ k a, L (k + 1) a (l.length : Int) = some a) (hstep : ∀ k (n : Nat) x a v, l[n]? = some x → n < l.length → S x a = some v → L (k + 1) a (n : Int) = if v < 0 then some (-1) else L k v ((n + 1 : Nat) : Int)) :
    ∀ a, 0 ≤ a → a ≤ 1048576 → ∃ v, Ev (fun k => L k a 0) v ∧ v ≤ 1048576 := by
  have key : ∀ d n, n + d = l.length → ∀ a, 0 ≤ a → a ≤ 1048576 → ∃ v, Ev (fun k => L k a (n : Int)) v ∧ v ≤ 1048576 := by
    intro d
    induction d with
    | zero =>
      intro n hn a _ h1
      have : n = l.length := by omega
      subst this
      exact ⟨a, ev_last fun k => hdone k a, h1⟩
    | succ d ih =>
      intro n hn a h0 h1
      have hlt : n < l.length := by omega
      have hx : l[n]? = some l[n] := List.getElem?_eq_getElem hlt
      obtain ⟨v, hv, hv1⟩ := hS _ (List.getElem_mem hlt) a h0 h1
      by_cases hneg : v < 0
      · exact ⟨-1, ev_last fun k => by rw [hstep k n _ a v hx hlt hv, if_pos hneg], by omega⟩
      · obtain ⟨r, hr, hr1⟩ := ih (n + 1) (by omega) v (by omega) hv1
        refine ⟨r, ev_shift (Ev.congr (fun k => ?_) hr), hr1⟩
        rw [hstep k n _ a v hx hlt hv, if_neg hneg]
  intro a h0 h1
  simpa using key l.length 0 (by omega) a h0 h1
end Go.Proofs.YtaenobdphjindaaDoor.Aid
