/- A map of the call's own, told by its entries in the order in which they came: make, a store, a look-up, as events of the print's walks. Keys: whole numbers or strings; elements of one cell. No condition beyond what each word says. -/
import Derived.Test.YtaenobdphjindaaDoorWMore
import Derived.MapKept
namespace Go.Proofs.YtaenobdphjindaaDoor.MapW
open Go.RowKit Go.MapKept Go.Proofs.YtaenobdphjindaaDoorW.PrintWords Go.Proofs.YtaenobdphjindaaDoorW.PrintLast Go.Proofs.YtaenobdphjindaaDoorW.PrintMore

section
variable {K V : Type} [DecidableEq K]
/-- What stands under a key. -/
def mget (m : List (K × V)) (k : K) : Option V :=
  match m with
  | [] => none
  | (k', v) :: r => if k = k' then some v else mget r k
def mgetD (m : List (K × V)) (k : K) (d : V) : V := (mget m k).getD d
/-- A store: in its place where the key is there, else behind all. -/
def mput (m : List (K × V)) (k : K) (v : V) : List (K × V) :=
  match m with
  | [] => [(k, v)]
  | (k', v') :: r => if k = k' then (k, v) :: r else (k', v') :: mput r k v
theorem mget_mput (m : List (K × V)) (k : K) (v : V) (k2 : K) : mget (mput m k v) k2 = if k2 = k then some v else mget m k2 := by
  induction m with
  | nil => simp [mput, mget]
  | cons p r ih =>
    obtain ⟨k', v'⟩ := p
    unfold mput
    by_cases h : k = k'
    · subst h
      simp only [if_true, mget]
      by_cases h2 : k2 = k <;> simp [h2]
    · simp only [if_neg h, mget, ih]
      by_cases h2 : k2 = k
      · subst h2; simp [h]
      · simp [h2]
theorem mgetD_mput (m : List (K × V)) (k : K) (v : V) (k2 : K) (d : V) : mgetD (mput m k v) k2 d = if k2 = k then v else mgetD m k2 d := by
  unfold mgetD
  rw [mget_mput]
  by_cases h : k2 = k <;> simp [h]
theorem mput_length (m : List (K × V)) (k : K) (v : V) : (mput m k v).length ≤ m.length + 1 := by
  induction m with
  | nil => simp [mput]
  | cons p r ih =>
    obtain ⟨k', v'⟩ := p
    unfold mput
    by_cases h : k = k'
    · simp [h]
    · simp only [if_neg h, List.length_cons]; omega
def entry (ek : K → Value) (ev : V → Value) (p : (K × V) × Nat) : MapEntry := { key := ek p.1.1, val := ev p.1.2, born := p.2 }
/-- The entries, each with its number. -/
def ents (ek : K → Value) (ev : V → Value) : Nat → List (K × V) → List MapEntry
  | _, [] => []
  | i, p :: r => entry ek ev (p, i) :: ents ek ev (i + 1) r
/-- The block that such a map is. -/
def mapObj (ek : K → Value) (ev : V → Value) (m : List (K × V)) : Obj := .map (ents ek ev 0 m).toArray m.length
/-- A key's type: its values are told apart as the letters are. -/
structure MapKey (P : Program) (kt : TypeId) (ek : K → Value) : Prop where
  desc : ∃ u, P.underlying kt = some u ∧ (∀ a, IsKey u (ek a)) ∧ ∀ a b, Instr.sameNow u (ek a) (ek b) = some (decide (a = b))
variable {P : Program} {ek : K → Value} {ev : V → Value}
omit [DecidableEq K] in
theorem ents_length : ∀ (m : List (K × V)) i, (ents ek ev i m).length = m.length
  | [], _ => rfl
  | p :: r, i => by simp [ents, ents_length r]
theorem findNow_ents {u : TypeDesc} (hs : ∀ a b, Instr.sameNow u (ek a) (ek b) = some (decide (a = b))) (k : K) : ∀ (m : List (K × V)) (i j : Nat),
    (mget m k = none → Instr.findNow u (ek k) (ents ek ev i m) j = some none) ∧ (∀ v, mget m k = some v → ∃ q, q < m.length ∧ Instr.findNow u (ek k) (ents ek ev i m) j = some (some (j + q, ev v)) ∧
      ∀ v', ents ek ev i (mput m k v') = (ents ek ev i m).modify q (fun e => { e with key := ek k, val := ev v' }) ∧ (mput m k v').length = m.length) ∧ (mget m k = none → ∀ v', mput m k v' = m ++ [(k, v')])
  | [], i, j => ⟨fun _ => rfl, fun v h => (by simp [mget] at h), fun _ v' => rfl⟩
  | (k', v0) :: r, i, j => by
    obtain ⟨h1, h2, h3⟩ := findNow_ents hs k r (i + 1) (j + 1)
    by_cases hk : k = k'
    · subst hk
      refine ⟨fun h => by simp [mget] at h, fun v h => ⟨0, by simp, ?_, fun v' => ⟨?_, by simp [mput]⟩⟩, fun h => by simp [mget] at h⟩
      · simp only [mget, if_true, Option.some.injEq] at h
        subst h
        simp [ents, entry, Instr.findNow, hs]
      · simp [mput, ents, entry]
    · have hd : decide (k = k') = false := decide_eq_false hk
      refine ⟨fun h => ?_, fun v h => ?_, fun h v' => ?_⟩
      · simp only [mget, if_neg hk] at h
        simp only [ents, entry, Instr.findNow, hs, hd]
        exact h1 h
      · simp only [mget, if_neg hk] at h
        obtain ⟨q, hq, hf, hm⟩ := h2 v h
        refine ⟨q + 1, by simp; omega, ?_, fun v' => ⟨?_, ?_⟩⟩
        · simp only [ents, entry, Instr.findNow, hs, hd]
          rw [hf]
          simp; omega
        · simp only [mput, if_neg hk, ents, (hm v').1]
          simp
        · simp only [mput, if_neg hk, List.length_cons, (hm v').2]
      · simp only [mget, if_neg hk] at h
        simp only [mput, if_neg hk, h3 h v', List.cons_append]
theorem mapKey_int {kt : TypeId} {k : IntKind} (h : P.underlying kt = some (.int k)) : MapKey P kt (Value.int k) :=
  ⟨_, h, fun a => by simp [IsKey], fun a b => by simp only [Instr.sameNow, if_true]; congr 1⟩
theorem mapKey_string {kt : TypeId} (h : P.underlying kt = some .string) : MapKey P kt Value.string :=
  ⟨_, h, fun a => by simp [IsKey], fun a b => by
    simp only [Instr.sameNow]
    congr 1
    rw [Bool.eq_iff_iff, MapKept.bytes_beq]
    simp⟩

theorem run_mget {t kt et : TypeId} {W : World} {b : Nat} {m : List (K × V)} (ht : P.underlying t = some (.map kt et)) (hk : MapKey P kt ek) (d : V) (hz : ∀ w, (zeroValue et).run P w = .ok (ev d) w) (hb : W.heap[b]? = some (mapObj ek ev m)) (k : K) :
    (Instr.lookup t (.map (some b)) (ek k) false).run P W = .ok (ev (mgetD m k d)) W := by
  obtain ⟨u, hu, hik, hs⟩ := hk.desc
  obtain ⟨h1, h2, _⟩ := findNow_ents (ek := ek) (ev := ev) hs k m 0 0
  have hb' : W.heap[b]? = some (.map (ents ek ev 0 m).toArray m.length) := hb
  cases hm : mget m k with
  | none => simp [Instr.lookup, run_underlying ht, MapKept.run_getObj_map hb', MapKept.run_checkKey hu (hik k), MapKept.run_findKey hu (h1 hm), hz, Result.andThen, mgetD, hm]
  | some v =>
    obtain ⟨q, _, hf, _⟩ := h2 v hm
    simp [Instr.lookup, run_underlying ht, MapKept.run_getObj_map hb', MapKept.run_checkKey hu (hik k), MapKept.run_findKey hu hf, Result.andThen, mgetD, hm]
theorem run_mput {t kt et : TypeId} {W : World} {b : Nat} {m : List (K × V)} (ht : P.underlying t = some (.map kt et)) (hk : MapKey P kt ek) (hb : W.heap[b]? = some (mapObj ek ev m)) (k : K) (v : V) :
    (Instr.mapUpdate t (.map (some b)) (ek k) (ev v)).run P W = .ok () { W with heap := W.heap.setIfInBounds b (mapObj ek ev (mput m k v)) } := by
  obtain ⟨u, hu, hik, hs⟩ := hk.desc
  obtain ⟨h1, h2, h3⟩ := findNow_ents (ek := ek) (ev := ev) hs k m 0 0
  have hb' : W.heap[b]? = some (.map (ents ek ev 0 m).toArray m.length) := hb
  cases hm : mget m k with
  | none =>
    have e : mapObj ek ev (mput m k v) = .map ((ents ek ev 0 m).toArray.push { key := ek k, val := ev v, born := m.length }) (m.length + 1) := by
      have hap : ∀ (l : List (K × V)) i, ents ek ev i (l ++ [(k, v)]) = ents ek ev i l ++ [{ key := ek k, val := ev v, born := i + l.length }] := by
        intro l
        induction l with
        | nil => intro i; simp [ents, entry]
        | cons p r ih => intro i; simp [ents, ih]; omega
      simp only [mapObj, h3 hm v, hap, List.length_append, List.length_singleton, Nat.zero_add]
      simp
    rw [e]
    simp [Instr.mapUpdate, run_underlying ht, MapKept.run_getObj_map hb', MapKept.run_checkKey hu (hik k), MapKept.run_findKey hu (h1 hm), MapKept.run_setObj_map _ hb', Result.andThen]
  | some v0 =>
    obtain ⟨q, hq, hf, hme⟩ := h2 v0 hm
    obtain ⟨e1, e2⟩ := hme v
    have hlen : q < (ents ek ev 0 m).length := by rw [ents_length]; exact hq
    have e : mapObj ek ev (mput m k v) = .map ((ents ek ev 0 m).toArray.modify q fun e => { e with key := ek k, val := ev v }) m.length := by
      simp only [mapObj, e1, e2]
      congr 1
      apply Array.ext'
      simp
    have hold : (ents ek ev 0 m)[q].key = ek k := by
      have key : ∀ (l : List (K × V)) (i j q : Nat) (v0 : Value) (h : q < (ents ek ev i l).length), Instr.findNow u (ek k) (ents ek ev i l) j = some (some (j + q, v0)) → ((ents ek ev i l)[q]).key = ek k := by
        intro l
        induction l with
        | nil => intro i j q v0 h; simp [ents] at h
        | cons p r ih =>
          intro i j q v0 h hf
          obtain ⟨k', v'⟩ := p
          simp only [ents, entry, Instr.findNow, hs] at hf
          by_cases hkk : k = k'
          · subst hkk
            simp at hf
            have : q = 0 := by omega
            subst this
            simp [ents, entry]
          · simp only [decide_eq_false hkk] at hf
            cases q with
            | zero =>
              exfalso
              have bound : ∀ (l : List MapEntry) (j x : Nat) (y : Value), Instr.findNow u (ek k) l j = some (some (x, y)) → j ≤ x := by
                intro l
                induction l with
                | nil => intro j x y h; simp [Instr.findNow] at h
                | cons e l ih2 =>
                  intro j x y h
                  simp only [Instr.findNow] at h
                  split at h
                  · simp at h; omega
                  · have := ih2 _ _ _ h; omega
                  · cases h
              have := bound _ _ _ _ hf
              omega
            | succ q =>
              simp only [ents, List.getElem_cons_succ]
              exact ih (i + 1) (j + 1) q v0 (by simpa [ents] using h) (by rw [hf]; congr 3; omega)
      exact key m 0 0 q (ev v0) hlen (by simpa using hf)
    rw [e]
    have hf' : Instr.findNow u (ek k) (ents ek ev 0 m) 0 = some (some (q, ev v0)) := by simpa using hf
    simp [Instr.mapUpdate, run_underlying ht, MapKept.run_getObj_map hb', MapKept.run_checkKey hu (hik k), MapKept.run_findKey hu hf', MapKept.run_setObj_map _ hb', Result.andThen, hlen, hold, MapKept.run_keyThatStays (hik k)]
end

/-! ### as events of the print's walks -/
section
variable {P : Program} {ops : Array Oper} {rest : List Oper} {o : Oper} {a : Act} {Q : Exit → Act → World → Prop}
theorem map_event {K V : Type} [DecidableEq K] (ek : K → Value) (ev : V → Value) {W : World} (hgd : o.guard = none) {N : Tmp} (_hd : o.dst = some N) (t : TypeId) (ho : o.op = .makeMap t none)
    (h : ∀ g, g = W.heap.size → ∀ w1, w1.heap[g]? = some (mapObj ek ev []) → Below W.heap.size W w1 → wpList P ops Q rest (a.put o.dst (.map (some g))) w1) : wpList P ops Q (o :: rest) a W := by
  refine Kd.event_run (w1 := W.alloc (.map #[] 0)) hgd ?_ (h _ rfl _ ?_ (below_alloc (Below.refl _ _) _))
  · simp [execOp, ho]
    rfl
  · exact (MapKept.heap_alloc W _).1
theorem mget_event {K V : Type} [DecidableEq K] {ek : K → Value} {ev : V → Value} {W : World} (hgd : o.guard = none) {N : Tmp} (_hd : o.dst = some N) (t kt et : TypeId) {b : Nat} {m : List (K × V)} (k : K) (ho : ∃ x y, o.op = .lookup t x y false ∧ a.eval x = .map (some b) ∧ a.eval y = ek k)
    (ht : P.underlying t = some (.map kt et)) (hk : MapKey P kt ek) (d : V) (hz : ∀ w, (zeroValue et).run P w = .ok (ev d) w) (hb : W.heap[b]? = some (mapObj ek ev m))
    (h : wpList P ops Q rest (a.put o.dst (ev (mgetD m k d))) W) : wpList P ops Q (o :: rest) a W := by
  obtain ⟨x, y, ho, hx, hy⟩ := ho
  refine Kd.event_run hgd ?_ h
  have := run_mget ht hk d hz hb k
  simp [execOp, ho, hx, hy, this, Result.andThen]
theorem mput_event {K V : Type} [DecidableEq K] {ek : K → Value} {ev : V → Value} {W : World} (hgd : o.guard = none) (t kt et : TypeId) {b : Nat} {m : List (K × V)} (k : K) (v : V) (ho : ∃ x y z, o.op = .mapUpdate t x y z ∧ a.eval x = .map (some b) ∧ a.eval y = ek k ∧ a.eval z = ev v)
    (ht : P.underlying t = some (.map kt et)) (hk : MapKey P kt ek) (hn : o.dst = none) (hb : W.heap[b]? = some (mapObj ek ev m))
    (h : ∀ w1, w1.heap[b]? = some (mapObj ek ev (mput m k v)) → W.grownBy w1 (some b) → wpList P ops Q rest a w1) : wpList P ops Q (o :: rest) a W := by
  obtain ⟨x, y, z, ho, hx, hy, hz⟩ := ho
  have hrun := run_mput ht hk hb k v
  have hlt := blk_lt hb
  have H := h { W with heap := W.heap.setIfInBounds b (mapObj ek ev (mput m k v)) } (by simp [hlt]) ⟨rfl, rfl, rfl, by simp, fun i _ hi => by
    show (W.heap.setIfInBounds b _)[i]? = _
    rw [Array.getElem?_setIfInBounds_ne (fun e => hi (by rw [e]))]⟩
  refine wpList_plain hgd fun K' hK' => ?_
  unfold Oper.wp
  simp [execOp, ho, hx, hy, hz, hrun, Result.andThen]
  refine hK' _ _ ?_
  rw [hn]
  exact H
theorem obj_far {w : World} {g : Nat} {b : Obj} (h : w.heap[g]? = some b) {p : Addr} (hp : g ≠ p.block) (u : Value) : (w.setCell p u).heap[g]? = some b := (Below.heap_setCell w p u g hp).trans h
/-- The operation is a store into a map. -/
theorem gate_mput {W : World} {t : TypeId} (_ho : ∃ x y z, o.op = .mapUpdate t x y z) (h : wpList P ops Q (o :: rest) a W) : wpList P ops Q (o :: rest) a W := h
/-- A row of the call's own is no map's block. -/
theorem R_over_map {α : Type} {d : Kd α} {e base : Nat} {ok : Nat → Prop} {W w1 : World} {v : Value} {xs : List α} {g : Nat} {es : Array MapEntry} {c : Nat} (h : d.R e W base ok v xs) (hb : W.heap[g]? = some (.map es c)) (hg : W.grownBy w1 (some g)) : d.R e w1 base ok v xs :=
  Kd.R_mono (Kd.R_step (Kd.R_bound h) (fun k hk hlt => hg.block k hlt (by
    obtain ⟨_, _, _, q, _, cells, hc⟩ := hk
    intro e
    injection e with e
    subst e
    rw [hb] at hc
    cases hc))) (fun _ hk => hk.1)
theorem below_put {w W w1 : World} {g : Nat} (h : Below w.heap.size w W) (hg : W.grownBy w1 (some g)) (hge : w.heap.size ≤ g) : Below w.heap.size w w1 :=
  pw_below_grown h (some g) h.size hg (fun k hk => by injection hk with hk; omega)
end
end Go.Proofs.YtaenobdphjindaaDoor.MapW
