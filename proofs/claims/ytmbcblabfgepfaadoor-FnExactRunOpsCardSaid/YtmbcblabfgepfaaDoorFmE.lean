/- The functional machine: slots told as values. -/
import Derived.Test.YtmbcblabfgepfaaDoorFmD
set_option autoImplicit true
set_option linter.unusedVariables false
set_option linter.unusedSimpArgs false
set_option linter.unusedSectionVars false
namespace Go.Fm
variable [Strict]

theorem cast?_some {k k' : Kind} {v : k.T} {v' : k'.T} (h : cast? k k' v = some v') : ∃ e : k = k', e ▸ v = v' := by
  unfold cast? at h
  split at h
  · rename_i e; exact ⟨e, by simpa using h⟩
  · cases h
theorem Keep.less {w : World} {O O' : Nat → Prop} (h : ∀ b, O' b → O b) : Keep w O w O' := ⟨fun _ _ _ => rfl, fun b _ hb => h b hb⟩

theorem Reg.nil {w : World} {O : Nat → Prop} {e : Kind} : Reg w O (.slice e) (.slice none 0 0) ([] : List e.T) := by
  unfold Reg; rw [if_neg (by simp [aggB])]
  exact ⟨rfl, none, 0, rfl, by simp, .inl rfl⟩
theorem Reg.bool {w : World} {O : Nat → Prop} (b : Bool) : Reg w O .bool (.bool b) b := by
  unfold Reg; rw [if_neg (by simp [aggB])]; exact ⟨rfl, rfl⟩
theorem Reg.int {w : World} {O : Nat → Prop} (k : IntKind) (n : Int) : Reg w O (.int k) (.int k n) n := by
  unfold Reg; rw [if_neg (by simp [aggB])]; exact ⟨rfl, rfl⟩
theorem Reg.str {w : World} {O : Nat → Prop} (s : ByteArray) : Reg w O .str (.string s) s := by
  unfold Reg; rw [if_neg (by simp [aggB])]; exact ⟨rfl, rfl⟩
theorem Reg.bool_inv {w : World} {O : Nat → Prop} {b : Bool} {u : Value} (h : Reg w O .bool u b) : u = .bool b := by
  unfold Reg at h; rw [if_neg (by simp [aggB])] at h; simpa [Cells] using h.2
theorem Reg.int_inv {w : World} {O : Nat → Prop} {k : IntKind} {n : Int} {u : Value} (h : Reg w O (.int k) u n) : u = .int k n := by
  unfold Reg at h; rw [if_neg (by simp [aggB])] at h; simpa [Cells] using h.2
theorem Reg.str_inv {w : World} {O : Nat → Prop} {s : ByteArray} {u : Value} (h : Reg w O .str u s) : u = .string s := by
  unfold Reg at h; rw [if_neg (by simp [aggB])] at h; simpa [Cells] using h.2
theorem Reg.slice_inv {w : World} {O : Nat → Prop} {e : Kind} {l : List e.T} {u : Value} (h : Reg w O (.slice e) u l) :
    ∃ A cap, u = .slice A l.length cap ∧ l.length ≤ cap ∧ (l.length = 0 ∨ ∃ b off blk ty fr, A = some ⟨b, off, none⟩ ∧ w.heap[b]? = some (.cells blk ty fr) ∧ ¬ O b ∧ Rows (Cells w O e) ((blk.toList.drop off).take (l.length * width e)) l) := by
  unfold Reg at h; rw [if_neg (by simp [aggB])] at h
  obtain ⟨_, A, cap, h1, h2⟩ := h
  exact ⟨A, cap, by simpa using h1, h2⟩
theorem Reg.slice_of {w : World} {O : Nat → Prop} {e : Kind} {l : List e.T} {A : Option Addr} {cap : Nat} (h1 : l.length ≤ cap)
    (h2 : l.length = 0 ∨ ∃ b off blk ty fr, A = some ⟨b, off, none⟩ ∧ w.heap[b]? = some (.cells blk ty fr) ∧ ¬ O b ∧ Rows (Cells w O e) ((blk.toList.drop off).take (l.length * width e)) l) : Reg w O (.slice e) (.slice A l.length cap) l := by
  unfold Reg; rw [if_neg (by simp [aggB])]
  exact ⟨rfl, A, cap, rfl, h1, h2⟩

theorem Cells.len {w : World} {O : Nat → Prop} (e : Kind) : ∀ c x, Cells w O e c x → c.length = width e := fun _ _ h => h.length

theorem row_reg {w : World} {O O' : Nat → Prop} {ty : TypeId} {e : Kind} {l : List e.T} {v : Value} {xs : List Value} (h1 : w.ownsRow 0 ty (width e) v l.length xs) (h2 : Rows (Cells w O e) xs l)
    (hO : ∀ b, O' b → O b) (hb : ∀ b, Blk v b → ¬ O' b) : Reg w O' (.slice e) v l := by
  rcases h1.2 with ⟨rfl, h3⟩ | ⟨g, cap, cur, rfl, _, h4, h5, _, h6, h7⟩
  · have : l = [] := List.eq_nil_of_length_eq_zero h3
    subst this; exact Reg.nil
  · refine Reg.slice_of h5 (.inr ⟨g, 0, cur, ty, (0, 0), rfl, h4, hb g rfl, ?_⟩)
    rw [List.drop_zero, h7]
    exact h2.imp fun c x hc => hc.keep (Keep.less hO)

/-- an element's cells as a value's -/
theorem DS.cells {w : World} {O O' : Nat → Prop} (hO : ∀ b, O' b → O b) : ∀ {k : Kind} {cs : List Value} {v : k.T} {us : List Value} {ts : List Nat}, dOK k = true → nsl k ≤ ts.length → DS w O k cs v us →
    (∀ (j : Nat) (u : Value) (q : Sigma fun e : Kind => List e.T) (ty : Nat), us[j]? = some u → (partsP k v)[j]? = some q → ts[j]? = some ty → PartOK w O ty u q ∧ ∀ b, blkOf u = some b → ¬ O' b) → Cells w O' k cs v
  | .pair a b, cs, v, us, ts, hd, hl, h, hp => by
    obtain ⟨c1, c2, u1, u2, rfl, rfl, h3, h4⟩ := h
    simp only [dOK, Bool.and_eq_true] at hd
    simp only [nsl, Nat.add_eq] at hl
    have hl1 : u1.length = nsl a ∧ (partsP a v.1).length = nsl a := by
      cases a <;> simp only [leafOK, Bool.false_eq_true, false_and] at hd <;> simp only [DS] at h3 <;> first
        | (obtain ⟨A, n, c, e1, e2⟩ := h3; subst e1; subst e2; exact ⟨rfl, rfl⟩)
        | (rw [h3.1]; exact ⟨rfl, rfl⟩)
    refine ⟨c1, c2, rfl, ?_, DS.cells hO (ts := ts.drop (nsl a)) hd.2 (by rw [List.length_drop]; omega) h4 fun j u q ty e1 e2 e3 => ?_⟩
    · have hp1 : ∀ (j : Nat) (u : Value) (q : Sigma fun e : Kind => List e.T) (ty : Nat), u1[j]? = some u → (partsP a v.1)[j]? = some q → ts[j]? = some ty → PartOK w O ty u q ∧ ∀ b, blkOf u = some b → ¬ O' b := fun j u q ty e1 e2 e3 => by
        have hj := (List.getElem?_eq_some_iff.1 e1).1
        refine hp j u q ty (by rw [List.getElem?_append_left hj]; exact e1) ?_ e3
        simp only [partsP]
        rw [List.getElem?_append_left (by omega)]; exact e2
      cases a <;> simp only [leafOK, Bool.false_eq_true, false_and] at hd <;> simp only [DS] at h3 <;> first
        | exact Cells.keep (Keep.less hO) h3.2
        | skip
      rename_i e
      obtain ⟨A, n, c, e1, e2⟩ := h3; subst e1; subst e2
      have hlt : 0 < ts.length := by simp only [nsl] at hl; omega
      obtain ⟨⟨xs, k1, k2⟩, k3⟩ := hp1 0 _ ⟨e, v.1⟩ ts[0] rfl rfl (List.getElem?_eq_getElem hlt)
      exact (row_reg k1 k2 hO (fun b hb => k3 b hb)).cells
    · refine hp (j + nsl a) u q ty ?_ ?_ ?_
      · rw [List.getElem?_append_right (by omega)]; rw [show j + nsl a - u1.length = j by omega]; exact e1
      · simp only [partsP]
        rw [List.getElem?_append_right (by omega)]; rw [show j + nsl a - (partsP a v.1).length = j by omega]; exact e2
      · rw [List.getElem?_drop] at e3; rw [Nat.add_comm]; exact e3
  | .slice e, cs, v, us, ts, hd, hl, h, hp => by
    obtain ⟨A, n, c, e1, e2⟩ := h; subst e1; subst e2
    have hlt : 0 < ts.length := by simp only [nsl] at hl; omega
    obtain ⟨⟨xs, k1, k2⟩, k3⟩ := hp 0 _ ⟨e, v⟩ ts[0] rfl rfl (List.getElem?_eq_getElem hlt)
    exact (row_reg k1 k2 hO (fun b hb => k3 b hb)).cells
  | .unit, _, _, _, _, _, _, h, _ => Cells.keep (k := .unit) (Keep.less hO) h.2
  | .int _, _, _, _, _, _, _, h, _ => Cells.keep (k := .int _) (Keep.less hO) h.2
  | .bool, _, _, _, _, _, _, h, _ => Cells.keep (k := .bool) (Keep.less hO) h.2
  | .str, _, _, _, _, _, _, h, _ => Cells.keep (k := .str) (Keep.less hO) h.2
  | .struct _, _, _, _, _, _, _, h, _ => Cells.keep (k := .struct _) (Keep.less hO) h.2
  | .arr _ _, _, _, _, _, _, _, h, _ => Cells.keep (k := .arr _ _) (Keep.less hO) h.2
  | .clo _ _, _, _, _, _, _, _, h, _ => Cells.keep (k := .clo _ _) (Keep.less hO) h.2
  | .ref _, _, _, _, _, _, _, h, _ => Cells.keep (k := .ref _) (Keep.less hO) h.2
  | .mpk _ _, _, _, _, _, _, _, h, _ => Cells.keep (k := .mpk _ _) (Keep.less hO) h.2
  | .mbx _ _, _, _, _, _, _, _, h, _ => Cells.keep (k := .mbx _ _) (Keep.less hO) h.2
  | .recB _ _ _, _, _, _, _, _, _, h, _ => Cells.keep (k := .recB _ _ _) (Keep.less hO) h.2
  | .err, _, _, _, _, _, _, h, _ => Cells.keep (k := .err) (Keep.less hO) h.2
  | .fnk, _, _, _, _, _, _, h, _ => Cells.keep (k := .fnk) (Keep.less hO) h.2
theorem Rows.map {α β : Type} {P : List Value → α → Prop} {Q : List Value → β → Prop} (f : α → β) : ∀ {cs : List Value} {l : List α}, (∀ (i : Nat) c x, l[i]? = some x → P c x → Q c (f x)) → Rows P cs l → Rows Q cs (l.map f)
  | _, [], _, h => h
  | _, x :: l, hf, ⟨c1, c2, e, h1, h2⟩ => ⟨c1, c2, e, hf 0 _ _ rfl h1, Rows.map f (fun i c y hy => hf (i + 1) c y hy) h2⟩
/-- a deep row told as a value -/
theorem deep_reg {w : World} {O O' : Nat → Prop} {ty : Nat} {e : Kind} {ts : List Nat} {v : Value} {l : List e.T} (h : DeepR w O ty e ts v l (fun _ _ => False)) (hO : ∀ b, O' b → O b) (hb : ∀ b, Blk v b → ¬ O' b) {u : Value} (hu : hdr v = some u) : Reg w O' (.slice e) u l := by
  obtain ⟨u0, xs, L, rfl, h2, h3, h4, h5, h6, h7⟩ := h
  rw [hdr_mk] at hu
  obtain rfl : u0 = u := by injection hu
  obtain ⟨a, rfl, ha, hn⟩ := deepB_struct h2
  obtain ⟨A, c, hA⟩ := ownsRow_slice h4
  have h0 : ∀ c, u0 ≠ .tuple c := by rw [hA]; simp
  have hr : Rows (Cells w O' (.struct a)) xs l := by
    rw [h3]
    refine Rows.map (fun p : (Kind.struct a).T × List Value => p.1) (fun i c p hi hp => ?_) h5
    refine DS.cells (k := a) hO (ts := ts) ha (by omega) hp fun j u q ty' e1 e2 e3 => ⟨h6 i j p u q ty' hi e1 e2 e3 (fun h => h), fun b hbu => hb b ?_⟩
    exact Blk_prt (i := i) (j := j) (by rw [prt_mk, List.getElem?_map, hi]; exact e1) hbu
  exact row_reg (O := O') h4 hr (fun b h => h) (fun b hbu => hb b (Blk_hdr (hdr_mk _ _) h0 (by rw [hA] at hbu ⊢; exact hbu)))
/-- a row of an element told as a value -/
theorem part_get {w : World} {O : Nat → Prop} {ty : Nat} {e : Kind} {ts : List Nat} {v : Value} {l : List e.T} (h : DeepR w O ty e ts v l (fun _ _ => False)) {i : Int} (hi : 0 ≤ i) {j : Nat} {u : Value} (hu : prt v i.toNat j = some u) {q : Sigma fun e : Kind => List e.T} (hq : (partsE e (rdT e l i))[j]? = some q) :
    i < (l.length : Int) ∧ ∃ ty', ts[j]? = some ty' ∧ PartOK w O ty' u q := by
  obtain ⟨u0, xs, L, rfl, h2, h3, h4, h5, h6, h7⟩ := h
  rw [prt_mk, List.getElem?_map] at hu
  cases hp : L[i.toNat]? with
  | none => rw [hp] at hu; cases hu
  | some p =>
    rw [hp] at hu
    have hlt := (List.getElem?_eq_some_iff.1 hp).1
    have hl : l.length = L.length := by rw [h3, List.length_map]
    have hr : rdT e l i = p.1 := by
      unfold rdT
      rw [h3, List.getD_eq_getElem?_getD, List.getElem?_map, hp]; rfl
    rw [hr] at hq
    obtain ⟨q', ty', e1, e2⟩ := DE.part h2 h5 hp hu
    exact ⟨by omega, ty', e2, h6 _ j p u q ty' hp hu hq e2 (fun h => h)⟩
section
variable {m : Mem} {nodes : Nat → Option Node} {O' : Nat → Prop}

theorem SRels.cells {m : Mem} {O' : Nat → Prop} {f : Slot → (k : Kind) → Option k.T} : ∀ (l : List Slot) {a : Kind} {us : List Value} {v : a.T}, SRels m a l us → fieldsT f a l = some v →
    (∀ x ∈ l, ∀ (k : Kind) (v : k.T) (u : Value), f x k = some v → SRel m x u → Cells m.w O' k u.cells.toList v) → Cells m.w O' a (catCells us) v
  | [], a, us, v, hs, hf, _ => by
    simp only [SRels] at hs
    obtain ⟨rfl, rfl⟩ := hs
    simp [catCells, Cells]
  | x :: l, a, us, v, hs, hf, h => by
    simp only [SRels] at hs
    obtain ⟨u, us', rfl, h1, h2⟩ := hs
    rcases h2 with ⟨a, b, rfl, h3, h4, h6, h5⟩ | ⟨h3, h6, rfl, rfl, h4, h7⟩
    · simp only [fieldsT] at hf
      cases hx : f x a with
      | none => simp [hx] at hf
      | some p =>
        cases hl : fieldsT f b l with
        | none => simp [hx, hl] at hf
        | some q =>
          simp [hx, hl] at hf; subst hf
          exact ⟨u.cells.toList, catCells us', by simp [catCells], h x (by simp) a p u hx h1, SRels.cells l h5 hl fun y hy => h y (by simp [hy])⟩
    · have : fieldsT f a [x] = f x a := by cases a <;> first | exact h3.elim | rfl
      rw [this] at hf
      simpa [catCells] using h x (by simp) a v u hf h1

theorem capV_cells {m : Mem} {w : World} {O' : Nat → Prop} {f : Slot → (k : Kind) → Option k.T} : ∀ (l : List Slot) {c : Kind} {v : c.T} {us : List Value}, fieldsT f c l = some v → STup m l us →
    (∀ x ∈ l, ∀ (k : Kind) (v : k.T) (u : Value), f x k = some v → SRel m x u → Cells w O' k [u] v) → Cells w O' c us v
  | [], c, v, us, h, hs, _ => by
    simp only [STup] at hs
    subst hs
    cases c <;> simp [fieldsT] at h <;> rfl
  | x :: l, c, v, us, h, hs, hf => by
    simp only [STup] at hs
    obtain ⟨u, us', rfl, h1, h2⟩ := hs
    cases c
    case pair a b =>
      simp only [fieldsT] at h
      cases e1 : f x a with
      | none => simp [e1] at h
      | some p =>
        cases e2 : fieldsT f b l with
        | none => simp [e1, e2] at h
        | some q =>
          simp only [e1, e2, Option.some.injEq] at h
          subst h
          exact ⟨[u], us', rfl, hf x (by simp) a p u e1 h1, capV_cells l e2 h2 fun y hy => hf y (by simp [hy])⟩
    all_goals
      cases l with
      | cons y l => simp [fieldsT] at h
      | nil =>
        simp only [STup] at h2
        subst h2
        simp only [fieldsT] at h
        exact hf x (by simp) _ v u h h1
theorem capV_one {m : Mem} {nodes : Nat → Option Node} {O' : Nat → Prop} {n : Nat} {rs : List Nat} (hn : ∀ q x, nodes q = some x → m.nodes q = some x) (hN : ∀ q x, m.nodes q = some x → NodeRel m q x) (hO : ∀ b, O' b → m.O b)
    (ih : ∀ (ct : Slot) (k : Kind) (v : k.T) (u : Value), asVal nodes n ct k = some v → SRel m ct u → (∀ q ∈ roots n ct, ∀ b, Blk (m.loc q) b → ¬ O' b) → Reg m.w O' k u v)
    (hrs : ∀ q ∈ rs, ∀ b, Blk (m.loc q) b → ¬ O' b) {x : Slot} (hbx : ∀ b, x = .box b [] → n ≠ 0 → ∀ b', Blk (m.loc b) b' → ¬ O' b') {k : Kind} {v : k.T} {u : Value} (hv : capV nodes (asVal nodes n) (roots n) rs x k = some v) (hs : SRel m x u) : Cells m.w O' k [u] v := by
  unfold capV at hv
  split at hv
  · rename_i b k
    cases hq : nodes b with
    | none => simp [hq] at hv
    | some nd =>
      cases nd with
      | row => simp [hq] at hv
      | mp => simp [hq] at hv
      | hole => simp [hq] at hv
      | deep => simp [hq] at hv
      | var k' ct =>
        simp only [hq] at hv
        split at hv
        · rename_i hk
          subst hk
          cases hro : (roots n ct).all rs.contains with
          | false => rw [hro] at hv; cases hv
          | true =>
            rw [hro, cond_true] at hv
            have hz : n ≠ 0 := by
              intro e; subst e; simp [asVal] at hv
            have hm := hn b _ hq
            obtain ⟨g0, blk, ty, u', k1, k2, k3, k4, k5, k6⟩ := hN b _ hm
            simp only [SRel] at hs
            obtain ⟨g', o, k2', e1, e2, e3⟩ := hs.2 _ _ hm
            rw [k1] at e1
            simp at e1; subst e1
            simp only [pathOff, Option.some.injEq, Prod.mk.injEq] at e2
            obtain ⟨rfl, _⟩ := e2
            have hc := (ih ct k' v u' hv k6 fun r hr' => hrs r (by simpa using List.all_eq_true.1 hro r hr')).cells
            rw [k3] at hc
            refine ⟨g0, 0, blk, ty, (0, 0), by rw [e3], k2, hbx b rfl hz g0 (by rw [k1]; rfl), ?_⟩
            rw [List.drop_zero, List.take_of_length_le (by rw [← k3, Array.length_toList, k4.size]; exact Nat.le_refl _)]
            exact hc
        · cases hv
  · rename_i k' v' k
    obtain ⟨rfl, rfl⟩ := cast?_some hv
    simp only [SRel] at hs
    have hs := hs.keep (Keep.less hO)
    unfold Reg at hs; rw [if_neg (by simp [aggB])] at hs
    exact hs.2
  · cases hv
theorem STup_at {m : Mem} : ∀ {l : List Slot} {us : List Value} {i : Nat} {x : Slot}, STup m l us → l[i]? = some x → ∃ u, us[i]? = some u ∧ SRel m x u
  | [], us, i, x, h, hi => by simp at hi
  | y :: l, us, i, x, h, hi => by
    simp only [STup] at h
    obtain ⟨u, us', rfl, h1, h2⟩ := h
    cases i with
    | zero => simp at hi; subst hi; exact ⟨u, by simp, h1⟩
    | succ i =>
      simp only [List.getElem?_cons_succ] at hi
      obtain ⟨u', h3, h4⟩ := STup_at h2 hi
      exact ⟨u', by simpa using h3, h4⟩
theorem STup_erase {m : Mem} : ∀ {l : List Slot} {us : List Value} (i : Nat), STup m l us → STup m (l.eraseIdx i) (us.eraseIdx i)
  | [], us, i, h => by simp only [STup] at h; subst h; simp [STup]
  | y :: l, us, i, h => by
    simp only [STup] at h
    obtain ⟨u, us', rfl, h1, h2⟩ := h
    cases i with
    | zero => simpa using h2
    | succ i =>
      simp only [List.eraseIdx_cons_succ, STup]
      exact ⟨u, _, rfl, h1, STup_erase i h2⟩
theorem asVal_sound (hn : ∀ r nd, nodes r = some nd → m.nodes r = some nd) (hN : ∀ r nd, m.nodes r = some nd → NodeRel m r nd) (hO : ∀ b, O' b → m.O b) :
    ∀ (n : Nat) (x : Slot) (k : Kind) (v : k.T) (u : Value), asVal nodes n x k = some v → SRel m x u → (∀ r ∈ roots n x, ∀ b, Blk (m.loc r) b → ¬ O' b) → Reg m.w O' k u v
  | 0, _, _, _, _, h, _, _ => by simp [asVal] at h
  | n + 1, .val k' v', k, v, u, h, hs, _ => by
    simp only [asVal] at h
    obtain ⟨rfl, rfl⟩ := cast?_some h
    simp only [SRel] at hs
    exact hs.keep (Keep.less hO)
  | n + 1, .prop p d, k, v, u, h, hs, _ => by
    simp only [asVal] at h
    obtain ⟨rfl, rfl⟩ := cast?_some h
    simp only [SRel] at hs
    subst hs; exact Reg.bool _
  | n + 1, .nils, .slice e, v, u, h, hs, _ => by
    simp only [asVal, Option.some.injEq] at h
    simp only [SRel] at hs
    subst hs; subst h; exact Reg.nil
  | n + 1, .root r, k, v, u, h, hs, hr => by
    simp only [asVal] at h
    cases hq : nodes r with
    | none => simp [hq] at h
    | some nd =>
      cases nd with
      | var => simp [hq] at h
      | mp => simp [hq] at h
      | hole => simp [hq] at h
      | deep => simp [hq] at h
      | row ty e l =>
        simp only [hq] at h
        obtain ⟨rfl, rfl⟩ := cast?_some h
        simp only [SRel] at hs
        have hm := hn r _ hq
        rw [hs.2.2 ty e l hm]
        obtain ⟨xs, h1, h2⟩ := hN r _ hm
        exact row_reg h1 h2 hO (hr r (by simp [roots]))
  | n + 1, .sub r lo hi, k, v, u, h, hs, hr => by
    simp only [asVal] at h
    cases hq : nodes r with
    | none => simp [hq] at h
    | some nd =>
      cases nd with
      | var => simp [hq] at h
      | mp => simp [hq] at h
      | hole => simp [hq] at h
      | deep => simp [hq] at h
      | row ty e l =>
        simp only [hq] at h
        obtain ⟨rfl, rfl⟩ := cast?_some h
        simp only [SRel] at hs
        have hm := hn r _ hq
        obtain ⟨h0, h1, h2, A, c, h3, h4, h5⟩ := hs.2 ty e l hm
        obtain ⟨xs, h6, h7⟩ := hN r _ hm
        have hlen : ((l.take hi.toNat).drop lo.toNat).length = (hi - lo).toNat := by simp; omega
        subst h3
        show Reg m.w O' (.slice e) _ ((l.take hi.toNat).drop lo.toNat)
        rw [← hlen]
        refine Reg.slice_of (by rw [hlen]; exact h4) ?_
        by_cases hlt : lo < hi
        · right
          obtain ⟨g, nn, cap, h8, h9⟩ := h5.1 hlt
          rcases h6.2 with ⟨h10, _⟩ | ⟨g', cap', cur, h10, _, h11, h12, _, h13, h14⟩
          · rw [h8] at h10; simp at h10
          · rw [h8] at h10; simp at h10
            obtain ⟨rfl, _, _⟩ := h10
            refine ⟨g, _, cur, ty, (0, 0), h9, h11, hr r (by simp [roots]) g (by rw [h8]; rfl), ?_⟩
            have hd := Rows.drop (Cells.len e) lo.toNat (Rows.take (Cells.len e) hi.toNat h7)
            rw [hlen]
            have he : (cur.toList.drop (lo.toNat * width e)).take ((hi - lo).toNat * width e) = (xs.take (hi.toNat * width e)).drop (lo.toNat * width e) := by
              rw [← h14, List.take_take, List.drop_take]
              have hle : hi.toNat * width e ≤ l.length * width e := Nat.mul_le_mul_right _ (by omega)
              rw [Nat.min_eq_left hle, ← Nat.sub_mul]
              congr 2
              omega
            rw [he]
            exact hd.imp fun c x hc => hc.keep (Keep.less hO)
        · left; rw [hlen]; omega
  | n + 1, .droot r, k, v, u, h, hs, hr => by
    simp only [asVal] at h
    cases hq : nodes r with
    | none => simp [hq] at h
    | some nd =>
      cases nd with
      | var => simp [hq] at h
      | mp => simp [hq] at h
      | hole => simp [hq] at h
      | row => simp [hq] at h
      | deep ty e ts l =>
        simp only [hq] at h
        obtain ⟨rfl, rfl⟩ := cast?_some h
        simp only [SRel] at hs
        exact deep_reg (hN r _ (hn r _ hq)) hO (hr r (by simp [roots])) hs.2.1
  | n + 1, .part r i f j, k, v, u, h, hs, hr => by
    simp only [asVal] at h
    cases hq : nodes r with
    | none => simp [hq] at h
    | some nd =>
      cases nd with
      | var => simp [hq] at h
      | mp => simp [hq] at h
      | hole => simp [hq] at h
      | row => simp [hq] at h
      | deep ty e ts l =>
        simp only [hq] at h
        simp only [SRel] at hs
        cases hg : (partsE e (rdT e l i))[j]? with
        | none => simp [hg] at h
        | some q =>
          obtain ⟨e', v'⟩ := q
          simp only [hg] at h
          obtain ⟨rfl, rfl⟩ := cast?_some h
          obtain ⟨_, ty', _, xs, k1, k2⟩ := part_get (hN r _ (hn r _ hq)) hs.2.1 hs.2.2.1 hg
          exact row_reg k1 k2 hO (fun b hb => hr r (by simp [roots]) b (Blk_prt hs.2.2.1 (by obtain ⟨A, c, hA⟩ := ownsRow_slice k1; rw [hA] at hb ⊢; exact hb)))
  | n + 1, .agg k' l, .struct a, v, u, h, hs, hr => by
    simp only [asVal] at h
    split at h
    · rename_i hk
      simp only [SRel] at hs
      obtain ⟨a', us, h1, h2, h3⟩ := hs
      subst hk
      cases h1
      subst h2
      unfold Reg; rw [if_pos (by simp [aggB])]
      refine ⟨_, rfl, ?_⟩
      simp only [Cells]
      refine SRels.cells l h3 h fun x hx k v u hv hs => (asVal_sound hn hN hO n x k v u hv hs fun r hr' => hr r ?_).cells
      simp only [roots, List.mem_flatMap]
      exact ⟨x, hx, hr'⟩
    · cases h
  | n + 1, .fn g l rs, .clo g' c, v, u, h, hs, hr => by
    simp only [asVal] at h
    split at h
    · rename_i hg
      subst hg
      cases hall : rs.all (fun r => (nodes r).isSome) with
      | false => rw [hall] at h; cases h
      | true =>
      rw [hall, cond_true] at h
      simp only [SRel] at hs
      obtain ⟨us, rfl, h2⟩ := hs
      unfold Reg; rw [if_neg (by simp [aggB])]
      refine ⟨rfl, us, rfl, ?_⟩
      refine capV_cells l h h2 fun x hx k v u hv hs => capV_one hn hN hO (fun ct k v u h hs hr => asVal_sound hn hN hO n ct k v u h hs hr) (fun q hq => hr q (by simp only [roots, List.mem_append]; exact .inl hq)) (fun b hb hz => hr b ?_) hv hs
      subst hb
      simp only [roots, List.mem_append, List.mem_flatMap]
      cases n with
      | zero => exact absurd rfl hz
      | succ n => exact .inr ⟨_, hx, by simp [roots]⟩
    · cases h
  | n + 1, .fbox b rs, .recB g p c, v, u, h, hs, hr => by
    simp only [asVal] at h
    cases hq : nodes b with
    | none => simp [hq] at h
    | some nd =>
      cases nd with
      | row => simp [hq] at h
      | mp => simp [hq] at h
      | hole => simp [hq] at h
      | deep => simp [hq] at h
      | var k' ct =>
        cases ct <;> simp only [hq] at h <;> (try (cases h; done))
        rename_i g' l rs'
        split at h
        · rename_i hg
          subst hg
          cases hck : (isBox b l[p]? && (rs.all (fun r => (nodes r).isSome) && (capAll rs' l).all rs.contains)) with
          | false => rw [hck] at h; cases h
          | true =>
          rw [hck, cond_true] at h
          simp only [Bool.and_eq_true] at hck
          obtain ⟨hb, _, hro⟩ := hck
          have hin : ∀ q ∈ capAll rs' l, q ∈ rs := fun q hq => by simpa using List.all_eq_true.1 hro q hq
          have hm := hn b _ hq
          obtain ⟨g0, blk, ty, u', k1, k2, k3, k4, k5, k6⟩ := hN b _ hm
          simp only [SRel] at k6
          obtain ⟨us, rfl, k7⟩ := k6
          simp only [SRel] at hs
          obtain ⟨g1, o, k2', e1, e2, e3⟩ := hs.2 _ _ hm
          rw [k1] at e1
          simp at e1; subst e1
          simp only [pathOff, Option.some.injEq, Prod.mk.injEq] at e2
          obtain ⟨rfl, _⟩ := e2
          obtain ⟨x, hx, hxb⟩ : ∃ x, l[p]? = some x ∧ x = .box b [] := by
            unfold isBox at hb
            split at hb
            · rename_i b' hl
              have := Nat.eq_of_beq_eq_true hb
              subst this
              exact ⟨_, hl, rfl⟩
            · cases hb
          subst hxb
          obtain ⟨y, hy, hys⟩ := STup_at k7 hx
          simp only [SRel] at hys
          obtain ⟨g2, o2, k3', f1, f2, f3⟩ := hys.2 _ _ hm
          rw [k1] at f1
          simp at f1; subst f1
          simp only [pathOff, Option.some.injEq, Prod.mk.injEq] at f2
          obtain ⟨rfl, _⟩ := f2
          have hblk : blk = #[.func (.func g') #[] us.toArray] := by
            apply Array.toList_inj.1
            rw [← k3]; rfl
          unfold Reg; rw [if_neg (by simp [aggB])]
          refine ⟨by rw [e3]; rfl, g0, us, ty, (0, 0), by rw [e3], by rw [k2, hblk], hr b (by simp [roots]) g0 (by rw [k1]; rfl), by rw [hy, f3], ?_⟩
          refine capV_cells (l.eraseIdx p) h (STup_erase p k7) fun x hx k v u hv hs => capV_one hn hN hO (fun ct k v u h hs hr => asVal_sound hn hN hO n ct k v u h hs hr) (fun q hq => hr q (by simp only [roots, List.mem_cons]; exact .inr (hin q (List.mem_append.2 (.inl hq))))) (fun b2 hb2 _ => hr b2 ?_) hv hs
          subst hb2
          simp only [roots, List.mem_cons]
          exact .inr (hin b2 (List.mem_append.2 (.inr (List.mem_filterMap.2 ⟨_, List.mem_of_mem_eraseIdx hx, rfl⟩))))
        · cases h
  | n + 1, .mref q, k, v, u, h, hs, hr => by
    simp only [asVal] at h
    cases hq : nodes q with
    | none => simp [hq] at h
    | some nd =>
      cases nd with
      | row => simp [hq] at h
      | var => simp [hq] at h
      | deep => simp [hq] at h
      | hole => simp [hq] at h
      | mp kk kv l =>
        simp only [hq] at h
        obtain ⟨rfl, rfl⟩ := cast?_some h
        have hm := hn q _ hq
        obtain ⟨h1, h2, b, h3, h4⟩ := hN q _ hm
        simp only [SRel] at hs
        have hu : u = .map (some b) := (hs.2.2 _ _ _ hm).trans h3
        subst hu
        unfold Reg; rw [if_neg (by simp [aggB])]
        exact ⟨rfl, b, rfl, h1, h2, h4, hr q (by simp [roots]) b (by rw [h3]; rfl)⟩
  | n + 1, .box b [], .ref k, v, u, h, hs, hr => by
    simp only [asVal] at h
    cases hq : nodes b with
    | none => simp [hq] at h
    | some nd =>
      cases nd with
      | row => simp [hq] at h
      | mp => simp [hq] at h
      | hole => simp [hq] at h
      | deep => simp [hq] at h
      | var k' c =>
        cases c <;> simp only [hq] at h <;> (try (cases h; done))
        split at h
        · rename_i hk
          subst hk
          obtain ⟨rfl, rfl⟩ := cast?_some h
          have hm := hn b _ hq
          obtain ⟨g, blk, ty, u', h1, h2, h3, h4, h5, h6⟩ := hN b _ hm
          simp only [SRel] at hs h6
          obtain ⟨g', o, k2, e1, e2, e3⟩ := hs.2 _ _ hm
          rw [h1] at e1
          simp at e1; subst e1
          simp only [pathOff, Option.some.injEq, Prod.mk.injEq] at e2
          obtain ⟨rfl, _⟩ := e2
          unfold Reg; rw [if_neg (by simp [aggB])]
          refine ⟨by rw [e3]; rfl, g, 0, blk, ty, (0, 0), by rw [e3], h2, hr b (by simp [roots]) g (by rw [h1]; rfl), ?_⟩
          have hc := (h6.keep (Keep.less hO)).cells
          rw [h3] at hc
          rw [List.drop_zero, List.take_of_length_le (by rw [← h3, Array.length_toList, h4.size]; exact Nat.le_refl _)]
          exact hc
        · cases h
  | n + 1, .fbox b rs, .ref k, v, u, h, hs, hr => by
    simp only [asVal] at h
    cases hq : nodes b with
    | none => simp [hq] at h
    | some nd =>
      cases nd with
      | row => simp [hq] at h
      | mp => simp [hq] at h
      | hole => simp [hq] at h
      | deep => simp [hq] at h
      | var k' c =>
        simp only [hq] at h
        split at h
        · rename_i hk
          subst hk
          cases hck : ((rs.all fun r => (nodes r).isSome) && (roots n c).all rs.contains) with
          | false => rw [hck] at h; cases h
          | true =>
          rw [hck, cond_true] at h
          simp only [Bool.and_eq_true, List.all_eq_true, List.contains_eq_mem, decide_eq_true_eq] at hck
          have hm := hn b _ hq
          obtain ⟨g, blk, ty, u', h1, h2, h3, h4, h5, h6⟩ := hN b _ hm
          simp only [SRel] at hs
          obtain ⟨g', o, k2, e1, e2, e3⟩ := hs.2 _ _ hm
          rw [h1] at e1
          simp at e1; subst e1
          simp only [pathOff, Option.some.injEq, Prod.mk.injEq] at e2
          obtain ⟨rfl, _⟩ := e2
          have hreg := asVal_sound hn hN hO n c k' v u' h h6 fun r hr' => hr r (by simp only [roots, List.mem_cons]; exact .inr (hck.2 r hr'))
          unfold Reg; rw [if_neg (by simp [aggB])]
          refine ⟨by rw [e3]; rfl, g, 0, blk, ty, (0, 0), by rw [e3], h2, hr b (by simp [roots]) g (by rw [h1]; rfl), ?_⟩
          have hc := hreg.cells
          rw [h3] at hc
          rw [List.drop_zero, List.take_of_length_le (by rw [← h3, Array.length_toList, h4.size]; exact Nat.le_refl _)]
          exact hc
        · cases h
end
end Go.Fm
