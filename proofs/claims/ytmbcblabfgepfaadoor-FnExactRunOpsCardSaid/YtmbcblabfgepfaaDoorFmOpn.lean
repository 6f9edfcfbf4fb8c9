/- The functional machine: an argument that reads as data, opened: a value of a kind, with the bounds that the reading gives. -/
import Derived.Test.YtmbcblabfgepfaaDoorFmZ
import Derived.SizedLaws
import Derived.ChangeArms
import Derived.WideShapes
set_option autoImplicit true
set_option linter.unusedVariables false
set_option linter.unusedSectionVars false
namespace Go.Fm.Opn
open Go.Fm Go.RowKit Go.ChangeShapes Go.WideShapes

/-- What reads as data of type t is a value of the kind d, and is as said. -/
def Opens (P : Program) (t : TypeId) (d : Kind) (ok : d.T → Prop) : Prop :=
  ∀ {H : Type} (enc : TypeId × Value → H) (w : World) (fuel : Nat) (cs : List Value) (x : DataW H × List MemPlace),
    DataW.trod enc P w 0 (fun _ => true) true fuel t cs = some x → (∀ n ∈ x.1.weights P t, n ≤ reachBytes) → ∃ v : d.T, Cells w (fun _ => False) d cs v ∧ ok v

section
variable {P : Program} {t : TypeId}
theorem opens_int {k : IntKind} (ht : P.underlying t = some (.int k)) : Opens P t (.int k) (fun (n : Int) => (Lit.int k n).wf = true) := by
  intro H enc w fuel cs x h _
  obtain ⟨n, rfl, _, hw⟩ := DataW.trod_int ht h
  exact ⟨n, rfl, hw⟩
theorem opens_bool (ht : P.underlying t = some .bool) : Opens P t .bool (fun _ => True) := by
  intro H enc w fuel cs x h _
  obtain ⟨b, rfl, _⟩ := DataW.trod_bool ht h
  exact ⟨b, rfl, trivial⟩
theorem opens_string (ht : P.underlying t = some .string) : Opens P t .str (fun (s : ByteArray) => s.size ≤ 140737488351232) := by
  intro H enc w fuel cs x h hz
  obtain ⟨s, rfl, hx, _⟩ := DataW.trod_string ht h
  subst hx
  have := hz s.data.toList.length (by simp [DataW.weights])
  rw [← size_len] at this
  exact ⟨s, rfl, this⟩
theorem list_of {α : Type} (Q : Nat → α → Prop) : ∀ n, (∀ i, i < n → ∃ v, Q i v) → ∃ l : List α, l.length = n ∧ ∀ i v, l[i]? = some v → Q i v := by
  intro n
  induction n with
  | zero => exact fun _ => ⟨[], rfl, fun i v h => by simp at h⟩
  | succ n ih =>
    intro h
    obtain ⟨l, hl, hq⟩ := ih (fun i hi => h i (by omega))
    obtain ⟨v, hv⟩ := h n (by omega)
    refine ⟨l ++ [v], by simp [hl], fun i u hu => ?_⟩
    by_cases hi : i < l.length
    · rw [List.getElem?_append_left hi] at hu
      exact hq i u hu
    · rw [List.getElem?_append_right (by omega)] at hu
      have : i - l.length = 0 := by
        by_cases e : i - l.length = 0
        · exact e
        · rw [List.getElem?_eq_none (by simp; omega)] at hu; cases hu
      rw [this] at hu
      simp at hu
      subst hu
      rw [show i = n by omega]
      exact hv
theorem weightsAll_mem {H : Type} {e : TypeId} : ∀ {l : List (DataW H)} {d : DataW H}, d ∈ l → ∀ n ∈ d.weights P e, n ∈ DataW.weightsAll P e l
  | d0 :: l, d, h, n, hn => by
    simp only [DataW.weightsAll, List.mem_append]
    rcases List.mem_cons.1 h with rfl | h
    · exact .inl hn
    · exact .inr (weightsAll_mem h n hn)
theorem cells_get {w : World} {a : Addr} {n : Nat} {cs : List Value} (h : w.cells? 0 a n = some cs) : cs.length = n ∧ ∀ i, i < n → w.cell? (a.add i) = cs[i]? := by
  unfold World.cells? at h
  rw [if_pos (Nat.zero_le _)] at h
  exact ⟨by simpa using mapM_some_length h, fun i hi => mapM_some_get h i i (by simp [hi])⟩
theorem add_add' (a : Addr) (i j : Nat) : (a.add i).add j = a.add (i + j) := by
  unfold Addr.add
  split <;> split <;> simp_all <;> omega
theorem opens_slice {e : TypeId} {d : Kind} {ok : d.T → Prop} {B : Nat} (ht : P.underlying t = some (.slice e)) (hw0 : width d ≠ 0) (hsz : P.cellsOf e = width d) (hB : P.bytesOf e = B) (hd : Opens P e d ok) :
    Opens P t (.slice d) (fun (xs : List d.T) => xs.length * B ≤ 140737488351232 ∧ ∀ x ∈ xs, ok x) := by
  intro H enc w fuel cs x h hz
  rcases DataW.trod_slice ht h with ⟨rfl, rfl⟩ | ⟨a, len, cap, elems, rest, n, _, rfl, hx, hb, hl, hm, hlen, hel, _, _⟩
  · exact ⟨([] : List d.T), ⟨none, 0, rfl, by simp, .inl rfl⟩, by simp, fun x hx => by simp at hx⟩
  · subst hx
    have hw : (DataW.slice (elems.map (·.1)) (rest.map (·.1)) : DataW H).weights P t = (elems.length + rest.length) * B :: (DataW.weightsAll P e (elems.map (·.1)) ++ DataW.weightsAll P e (rest.map (·.1))) := by
      simp [DataW.weights, ht, hB]
    have hz' : ∀ n ∈ (elems.length + rest.length) * B :: (DataW.weightsAll P e (elems.map (·.1)) ++ DataW.weightsAll P e (rest.map (·.1))), n ≤ reachBytes := by
      intro n hn
      exact hz n (by rw [← hw] at hn; exact hn)
    have each : ∀ i, i < len → ∃ v : d.T, ∃ c, c.length = width d ∧ Cells w (fun _ => False) d c v ∧ ok v ∧ ∀ j u, c[j]? = some u → w.cell? (a.add (i * width d + j)) = some u := by
      intro i hi
      have h1 := hel i hi
      obtain ⟨y, hy⟩ : ∃ y, elems[i]? = some y := ⟨_, List.getElem?_eq_getElem (by omega)⟩
      rw [hy, Option.bind_eq_some_iff] at h1
      obtain ⟨c, hc, hy'⟩ := h1
      obtain ⟨v, hK, hok⟩ := hd enc w n c y hy' (fun m hm => hz' m (List.mem_cons_of_mem _ (List.mem_append_left _ (weightsAll_mem (List.mem_map.2 ⟨y, List.mem_of_getElem? hy, rfl⟩) m hm))))
      obtain ⟨hcl, hcg⟩ := cells_get hc
      refine ⟨v, c, by rw [hcl, hsz], hK, hok, fun j u hu => ?_⟩
      have hj : j < P.cellsOf e := by have := (List.getElem?_eq_some_iff.1 hu).1; omega
      have := hcg j hj
      rw [hu, add_add', hsz] at this
      exact this
    obtain ⟨xs, hxl, hxs⟩ := list_of _ len each
    have hlen2 : xs.length ≤ cap := by omega
    have hlen3 : len ≤ 9223372036854775807 := by unfold maxLen at hm; omega
    refine ⟨xs, ⟨some a, cap, by rw [hxl], hlen2, ?_⟩, ?_, ?_⟩
    · by_cases h0 : xs.length = 0
      · exact .inl h0
      · right
        obtain ⟨v0, hv0⟩ : ∃ v0, xs[0]? = some v0 := ⟨_, List.getElem?_eq_getElem (by omega)⟩
        obtain ⟨c0, hc0, _, _, hc00⟩ := hxs 0 v0 hv0
        obtain ⟨u0, hu0⟩ : ∃ u0, c0[0]? = some u0 := ⟨_, List.getElem?_eq_getElem (by omega)⟩
        have hcell := hc00 0 u0 hu0
        obtain ⟨b, off, spot⟩ := a
        cases spot with
        | some p => exfalso; unfold World.cell? Addr.add at hcell; simp at hcell; split at hcell <;> simp at hcell
        | none =>
          have hheap : ∃ blk ty fr, w.heap[b]? = some (.cells blk ty fr) := by
            rw [addr_add] at hcell
            unfold World.cell? at hcell
            split at hcell
            · rename_i blk ty fr he; exact ⟨blk, ty, fr, he⟩
            · cases hcell
          obtain ⟨blk, ty, fr, hb⟩ := hheap
          refine ⟨b, off, blk, ty, fr, rfl, hb, fun h => h, ?_⟩
          have hat : ∀ p u, w.cell? ((⟨b, off, none⟩ : Addr).add p) = some u → blk.toList[off + p]? = some u := by
            intro p u h
            rw [addr_add] at h
            unfold World.cell? at h
            simp only [hb] at h
            simpa using h
          -- the cells, one element behind the other
          have key : ∀ (l : List d.T) (k : Nat), (∀ i v, l[i]? = some v → ∃ c, c.length = width d ∧ Cells w (fun _ => False) d c v ∧ ok v ∧ ∀ j u, c[j]? = some u → w.cell? ((⟨b, off, none⟩ : Addr).add ((k + i) * width d + j)) = some u) →
              Rows (Cells w (fun _ => False) d) ((blk.toList.drop (off + k * width d)).take (l.length * width d)) l := by
            intro l
            induction l with
            | nil => intro k _; simp [Rows]
            | cons x l ih =>
              intro k h
              obtain ⟨c, e1, e2, _, e4⟩ := h 0 x rfl
              have h2 := ih (k + 1) (fun i v hi => by
                obtain ⟨c, g1, g2, g3, g4⟩ := h (i + 1) v (by simpa using hi)
                exact ⟨c, g1, g2, g3, fun j u hu => by have := g4 j u hu; rwa [show k + 1 + i = k + (i + 1) by omega]⟩)
              refine ⟨c, _, ?_, e2, h2⟩
              apply List.ext_getElem?
              intro q
              simp only [List.getElem?_take, List.getElem?_drop, List.length_cons, Nat.add_mul, Nat.one_mul]
              by_cases hq : q < width d
              · rw [if_pos (by omega), List.getElem?_append_left (by omega)]
                obtain ⟨u, hu⟩ : ∃ u, c[q]? = some u := ⟨_, List.getElem?_eq_getElem (by omega)⟩
                have := hat _ _ (e4 q u hu)
                rw [hu]
                simp only [Nat.add_zero] at this
                rw [← this]; congr 1; omega
              · rw [List.getElem?_append_right (by omega), e1, List.getElem?_take, List.getElem?_drop]
                by_cases hq2 : q < l.length * width d + width d
                · rw [if_pos hq2, if_pos (by omega)]; congr 1; omega
                · rw [if_neg hq2, if_neg (by omega)]
          have := key xs 0 (fun i v hi => by obtain ⟨c, g1, g2, g3, g4⟩ := hxs i v hi; exact ⟨c, g1, g2, g3, fun j u hu => by rw [Nat.zero_add]; exact g4 j u hu⟩)
          simpa using this
    · have h0 := hz' _ List.mem_cons_self
      have : reachBytes = 140737488351232 := rfl
      rw [this] at h0
      refine Nat.le_trans (Nat.mul_le_mul_right _ ?_) h0
      omega
    · intro x hx
      obtain ⟨i, hi⟩ := List.getElem?_of_mem hx
      obtain ⟨c, _, _, h3, _⟩ := hxs i x hi
      exact h3

/-! ### structs: their fields one behind the other -/
def ReadsFs {H : Type} (enc : TypeId × Value → H) (P : Program) (w : World) (fuel : Nat) : List TypeId → List Value → List (DataW H) → Prop
  | [], cs, ds => cs = [] ∧ ds = []
  | _ :: _, _, [] => False
  | t :: ts, cs, d :: ds => (∃ p, DataW.trod enc P w 0 (fun _ => true) true fuel t (cs.take (P.cellsOf t)) = some (d, p)) ∧ ReadsFs enc P w fuel ts (cs.drop (P.cellsOf t)) ds
def OpensFs (P : Program) (ts : List TypeId) (d : Kind) (ok : d.T → Prop) : Prop :=
  ∀ {H : Type} (enc : TypeId × Value → H) (w : World) (fuel : Nat) (cs : List Value) (ds : List (DataW H)),
    ReadsFs enc P w fuel ts cs ds → (∀ n ∈ DataW.weightsEach P ts ds, n ≤ reachBytes) → ∃ v : d.T, Cells w (fun _ => False) d cs v ∧ ok v
theorem opensFs_one {d : Kind} {ok : d.T → Prop} (h : Opens P t d ok) : OpensFs P [t] d ok := by
  intro H enc w fuel cs ds hr hz
  match ds, hr with
  | [], hr => exact hr.elim
  | d0 :: ds, ⟨⟨p, hp⟩, hc, hd⟩ =>
    subst hd
    have : cs.take (P.cellsOf t) = cs := List.take_of_length_le (by
      have := congrArg List.length hc
      simp at this
      omega)
    rw [this] at hp
    exact h enc w fuel cs (d0, p) hp (fun n hn => hz n (by simp [DataW.weightsEach, hn]))
theorem opensFs_cons {ts : List TypeId} {a b : Kind} {oka : a.T → Prop} {okb : b.T → Prop} (h : Opens P t a oka) (hs : OpensFs P ts b okb) :
    OpensFs P (t :: ts) (.pair a b) (fun (x : a.T × b.T) => oka x.1 ∧ okb x.2) := by
  intro H enc w fuel cs ds hr hz
  match ds, hr with
  | [], hr => exact hr.elim
  | d0 :: ds, ⟨⟨p, hp⟩, hr⟩ =>
    obtain ⟨x, hx, hox⟩ := h enc w fuel _ (d0, p) hp (fun n hn => hz n (by simp [DataW.weightsEach, hn]))
    obtain ⟨y, hy, hoy⟩ := hs enc w fuel _ ds hr (fun n hn => hz n (by simp only [DataW.weightsEach, List.mem_append]; exact .inr hn))
    exact ⟨(x, y), ⟨_, _, (List.take_append_drop (P.cellsOf t) cs).symm, hx, hy⟩, hox, hoy⟩
/-- The fields lie one behind the other, from place o on, and end at n. -/
def rowed (P : Program) : List Field → Nat → Nat → Bool
  | [], o, n => o == n
  | f :: fs, o, n => (f.offset == o) && rowed P fs (o + P.cellsOf f.type) n
theorem readsFs_of {H : Type} {enc : TypeId × Value → H} {w : World} {n : Nat} {cs : List Value} : ∀ (fs : List Field) (xs : List (DataW H × List MemPlace)) (o : Nat), rowed P fs o cs.length = true → xs.length = fs.length → o ≤ cs.length →
    (∀ (i : Nat) (f : Field), fs[i]? = some f → DataW.trod enc P w 0 (fun _ => true) true n f.type ((cs.drop f.offset).take (P.cellsOf f.type)) = xs[i]?) →
    ReadsFs enc P w n (fs.map (·.type)) (cs.drop o) (xs.map (·.1))
  | [], xs, o, hr, hl, _, _ => by
    have : xs = [] := List.length_eq_zero_iff.1 hl
    subst this
    simp only [rowed, beq_iff_eq] at hr
    subst hr
    exact ⟨by simp, rfl⟩
  | f :: fs, [], o, _, hl, _, _ => by simp at hl
  | f :: fs, x :: xs, o, hr, hl, ho, hf => by
    simp only [rowed, Bool.and_eq_true, beq_iff_eq] at hr
    obtain ⟨h1, h2⟩ := hr
    have h0 := hf 0 f rfl
    rw [h1] at h0
    refine ⟨⟨x.2, h0⟩, ?_⟩
    rw [List.drop_drop]
    have hb : o + P.cellsOf f.type ≤ cs.length := by
      clear h0 hf hl ho h1
      revert h2
      generalize o + P.cellsOf f.type = q
      induction fs generalizing q with
      | nil => intro h; simp only [rowed, beq_iff_eq] at h; omega
      | cons g gs ih =>
        intro h
        simp only [rowed, Bool.and_eq_true, beq_iff_eq] at h
        have := ih _ h.2
        omega
    exact readsFs_of fs xs _ h2 (by simpa using hl) hb (fun i g hg => hf (i + 1) g hg)
theorem opens_struct {fs : Array Field} {d : Kind} {ok : d.T → Prop} (ht : P.underlying t = some (.struct fs)) (hr : rowed P fs.toList 0 (P.cellsOf t) = true)
    (hd : OpensFs P (fs.toList.map (·.type)) d ok) : Opens P t (.struct d) ok := by
  intro H enc w fuel cs x h hz
  obtain ⟨xs, n, _, rfl, hl, hlen, hf⟩ := DataW.trod_struct ht h
  have hrd : ReadsFs enc P w n (fs.toList.map (·.type)) cs (xs.map (·.1)) := by
    have := readsFs_of (enc := enc) (w := w) (n := n) (cs := cs) fs.toList xs 0 (by rw [hl]; exact hr) (by simpa using hlen) (by omega) (fun i f hi => hf i f (by simpa using hi))
    simpa using this
  obtain ⟨v, hv, hok⟩ := hd enc w n cs _ hrd (fun m hm => hz m (by simpa [DataW.weights, ht] using hm))
  exact ⟨v, hv, hok⟩

/-! ### an argument -/
/-- The weights of argument j are among the row's. -/
theorem arg_weights {H : Type} {ts : List TypeId} {ds : List (DataW H)} {j : Nat} {d : DataW H} (hsz : (DataW.weightsEach P ts ds).all (· ≤ reachBytes) = true) (ht : ts[j]? = some t) (hd : ds[j]? = some d) : ∀ n ∈ d.weights P t, n ≤ reachBytes := fun n hn => by
  have := List.all_eq_true.1 hsz n (DataW.weights_mem_each ht hd n hn)
  simpa using this
theorem open_slice {H : Type} {enc : TypeId × Value → H} {w : World} {b0 : Nat} {e : TypeId} {d : Kind} {ok : List d.T → Prop} {v : Value} {x : DataW H} {ps : List MemPlace} {r : Reach} (hu : P.underlying t = some (.slice e)) (ho : Opens P t (.slice d) ok)
    (hv : Value.okWide P w r b0 t v) (h : DataW.Trod enc P w 0 (fun _ => true) true t v x ps) (hz : ∀ n ∈ x.weights P t, n ≤ reachBytes) :
    ∃ l : List d.T, Reg w (fun _ => False) (.slice d) v l ∧ ok l := by
  obtain ⟨a, len, cap, rfl⟩ := okWide_slice hu hv
  obtain ⟨fuel, hf⟩ := h
  obtain ⟨l, hC, hok⟩ := ho enc w fuel _ (x, ps) hf hz
  refine ⟨l, ?_, hok⟩
  unfold Reg
  rw [if_neg (by simp [aggB])]
  exact ⟨rfl, hC⟩
theorem open_struct {H : Type} {enc : TypeId × Value → H} {w : World} {b0 : Nat} {fs : Array Field} {d : Kind} {ok : d.T → Prop} {v : Value} {x : DataW H} {ps : List MemPlace} {r : Reach} (hu : P.underlying t = some (.struct fs)) (ho : Opens P t (.struct d) ok)
    (hv : Value.okWide P w r b0 t v) (h : DataW.Trod enc P w 0 (fun _ => true) true t v x ps) (hz : ∀ n ∈ x.weights P t, n ≤ reachBytes) :
    ∃ l : d.T, Reg w (fun _ => False) (.struct d) v l ∧ ok l := by
  obtain ⟨cs, rfl, _⟩ := okWide_struct hu hv
  obtain ⟨fuel, hf⟩ := h
  obtain ⟨l, hK, hok⟩ := ho enc w fuel _ (x, ps) hf hz
  refine ⟨l, ?_, hok⟩
  unfold Reg
  rw [if_pos (by simp [aggB])]
  exact ⟨cs, rfl, hK⟩
theorem array_of {cs : Array Value} {l : List Value} (h : cs.toList = l) : cs = l.toArray := by
  subst h
  simp
/-- a law's contract, for its row -/
theorem law {G : World → Prop} {f : Nat} {ps : List PS} {g : ArgsT ps → Option Bool} (hc : Con P G f ⟨ps, .val .bool, g, []⟩) (hG : ∀ w, G w) {v : ArgsT ps} {w : World} {args : List Value} (h : g v = some true) (ha : ArgsOK w (fun b => b ∈ ([] : List Nat) ∨ False) ps v args []) :
    Calls P f args.toArray w fun e w' => e = .returned (.bool true) ∧ Below w.heap.size w w' := by
  refine (hc v true w args [] (fun _ => False) h ha List.nodup_nil (fun b hb => hb.elim) (fun w' _ => hG w')).mono ?_
  rintro e w' ⟨u, rfl, hf, bl', hro, _, _⟩
  obtain ⟨_, u', hu, hr⟩ := hro
  simp only [List.cons.injEq, and_true] at hu
  subst hu
  rw [hr.bool_inv]
  exact ⟨rfl, hf.os, hf.tape.1, hf.output, hf.size, fun b hb => hf.block b hb (by simp)⟩
theorem Reg.none_ {w : World} {k : Kind} {u : Value} {v : k.T} (h : Reg w (fun _ => False) k u v) : Reg w (fun b => b ∈ ([] : List Nat) ∨ False) k u v :=
  h.keep ⟨fun _ _ _ => rfl, fun b _ hb => by simp at hb⟩
end
end Go.Fm.Opn
namespace Go.Fm
variable [Strict]
/-- what is known of a value that is read as an argument -/
def okT : (k : Kind) → k.T → Prop
  | .int k, n => (Lit.int k n).wf = true
  | .str, s => ByteArray.size s ≤ 140737488351232
  | .pair a b, v => okT a v.1 ∧ okT b v.2
  | .struct a, v => okT a v
  | .slice e, l => List.length l ≤ 140737488351232 ∧ ∀ x ∈ (l : List e.T), okT e x
  | _, _ => True
end Go.Fm
namespace Go.Fm.Opn
open Go.Fm Go.RowKit Go.ChangeShapes Go.WideShapes
section
variable {P : Program} {t : TypeId}
theorem ok_int {k : IntKind} (ht : P.underlying t = some (.int k)) : Opens P t (.int k) (okT (.int k)) := opens_int ht
theorem ok_bool (ht : P.underlying t = some .bool) : Opens P t .bool (okT .bool) := opens_bool ht
theorem ok_string (ht : P.underlying t = some .string) : Opens P t .str (okT .str) := opens_string ht
theorem ok_slice {e : TypeId} {d : Kind} (B : Nat) (ht : P.underlying t = some (.slice e)) (hw0 : width d ≠ 0) (hsz : P.cellsOf e = width d) (hB : P.bytesOf e = B) (hB1 : 1 ≤ B) (hd : Opens P e d (okT d)) : Opens P t (.slice d) (okT (.slice d)) := by
  intro H enc w fuel cs x hx hz
  obtain ⟨v, h1, h2⟩ := opens_slice ht hw0 hsz hB hd enc w fuel cs x hx hz
  exact ⟨v, h1, Nat.le_trans (Nat.le_mul_of_pos_right _ hB1) h2.1, h2.2⟩
theorem ok_struct {fs : Array Field} {d : Kind} (ht : P.underlying t = some (.struct fs)) (hr : rowed P fs.toList 0 (P.cellsOf t) = true) (hd : OpensFs P (fs.toList.map (·.type)) d (okT d)) : Opens P t (.struct d) (okT (.struct d)) := opens_struct ht hr hd
theorem okFs_one {d : Kind} (h : Opens P t d (okT d)) : OpensFs P [t] d (okT d) := opensFs_one h
theorem okFs_cons {ts : List TypeId} {a b : Kind} (h : Opens P t a (okT a)) (hs : OpensFs P ts b (okT b)) : OpensFs P (t :: ts) (.pair a b) (okT (.pair a b)) := opensFs_cons h hs
end
end Go.Fm.Opn
