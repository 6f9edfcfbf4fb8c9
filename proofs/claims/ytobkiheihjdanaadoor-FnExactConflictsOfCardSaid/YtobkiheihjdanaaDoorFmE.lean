/- The functional machine: slots told as values. -/
import Derived.Test.YtobkiheihjdanaaDoorFmD
set_option autoImplicit true
set_option linter.unusedVariables false
set_option linter.unusedSimpArgs false
set_option linter.unusedSectionVars false
namespace Go.Fm
variable [Strict]

theorem cast?_some {k k' : Kind} {v : k.T} {v' : k'.T} (h : cast? k k' v = some v') : ∃ e : k = k', e ▸ v = v' := by
  unfold cast? at h
  split at h
  · rename_i e; exact ⟨e, by simpa using h⟩
  · cases h
theorem Keep.less {w : World} {O O' : Nat → Prop} (h : ∀ b, O' b → O b) : Keep w O w O' := ⟨fun _ _ _ => rfl, fun b _ hb => h b hb⟩

theorem Reg.nil {w : World} {O : Nat → Prop} {e : Kind} : Reg w O (.slice e) (.slice none 0 0) ([] : List e.T) := by
  unfold Reg; rw [if_neg (by simp [aggB])]
  exact ⟨rfl, none, 0, rfl, by simp, .inl rfl⟩
theorem Reg.bool {w : World} {O : Nat → Prop} (b : Bool) : Reg w O .bool (.bool b) b := by
  unfold Reg; rw [if_neg (by simp [aggB])]; exact ⟨rfl, rfl⟩
theorem Reg.int {w : World} {O : Nat → Prop} (k : IntKind) (n : Int) : Reg w O (.int k) (.int k n) n := by
  unfold Reg; rw [if_neg (by simp [aggB])]; exact ⟨rfl, rfl⟩
theorem Reg.str {w : World} {O : Nat → Prop} (s : ByteArray) : Reg w O .str (.string s) s := by
  unfold Reg; rw [if_neg (by simp [aggB])]; exact ⟨rfl, rfl⟩
theorem Reg.bool_inv {w : World} {O : Nat → Prop} {b : Bool} {u : Value} (h : Reg w O .bool u b) : u = .bool b := by
  unfold Reg at h; rw [if_neg (by simp [aggB])] at h; simpa [Cells] using h.2
theorem Reg.int_inv {w : World} {O : Nat → Prop} {k : IntKind} {n : Int} {u : Value} (h : Reg w O (.int k) u n) : u = .int k n := by
  unfold Reg at h; rw [if_neg (by simp [aggB])] at h; simpa [Cells] using h.2
theorem Reg.str_inv {w : World} {O : Nat → Prop} {s : ByteArray} {u : Value} (h : Reg w O .str u s) : u = .string s := by
  unfold Reg at h; rw [if_neg (by simp [aggB])] at h; simpa [Cells] using h.2
theorem Reg.slice_inv {w : World} {O : Nat → Prop} {e : Kind} {l : List e.T} {u : Value} (h : Reg w O (.slice e) u l) :
    ∃ A cap, u = .slice A l.length cap ∧ l.length ≤ cap ∧ (l.length = 0 ∨ ∃ b off blk ty fr, A = some ⟨b, off, none⟩ ∧ w.heap[b]? = some (.cells blk ty fr) ∧ ¬ O b ∧ Rows (Cells w O e) ((blk.toList.drop off).take (l.length * width e)) l) := by
  unfold Reg at h; rw [if_neg (by simp [aggB])] at h
  obtain ⟨_, A, cap, h1, h2⟩ := h
  exact ⟨A, cap, by simpa using h1, h2⟩
theorem Reg.slice_of {w : World} {O : Nat → Prop} {e : Kind} {l : List e.T} {A : Option Addr} {cap : Nat} (h1 : l.length ≤ cap)
    (h2 : l.length = 0 ∨ ∃ b off blk ty fr, A = some ⟨b, off, none⟩ ∧ w.heap[b]? = some (.cells blk ty fr) ∧ ¬ O b ∧ Rows (Cells w O e) ((blk.toList.drop off).take (l.length * width e)) l) : Reg w O (.slice e) (.slice A l.length cap) l := by
  unfold Reg; rw [if_neg (by simp [aggB])]
  exact ⟨rfl, A, cap, rfl, h1, h2⟩

theorem Cells.len {w : World} {O : Nat → Prop} (e : Kind) : ∀ c x, Cells w O e c x → c.length = width e := fun _ _ h => h.length

theorem row_reg {w : World} {O O' : Nat → Prop} {ty : TypeId} {e : Kind} {l : List e.T} {v : Value} {xs : List Value} (h1 : w.ownsRow 0 ty (width e) v l.length xs) (h2 : Rows (Cells w O e) xs l)
    (hO : ∀ b, O' b → O b) (hb : ∀ b, blkOf v = some b → ¬ O' b) : Reg w O' (.slice e) v l := by
  rcases h1.2 with ⟨rfl, h3⟩ | ⟨g, cap, cur, rfl, _, h4, h5, _, h6, h7⟩
  · have : l = [] := List.eq_nil_of_length_eq_zero h3
    subst this; exact Reg.nil
  · refine Reg.slice_of h5 (.inr ⟨g, 0, cur, ty, (0, 0), rfl, h4, hb g rfl, ?_⟩)
    rw [List.drop_zero, h7]
    exact h2.imp fun c x hc => hc.keep (Keep.less hO)

section
variable {m : Mem} {nodes : Nat → Option Node} {O' : Nat → Prop}

theorem SRels.cells {m : Mem} {O' : Nat → Prop} {f : Slot → (k : Kind) → Option k.T} : ∀ (l : List Slot) {a : Kind} {us : List Value} {v : a.T}, SRels m a l us → fieldsT f a l = some v →
    (∀ x ∈ l, ∀ (k : Kind) (v : k.T) (u : Value), f x k = some v → SRel m x u → Cells m.w O' k u.cells.toList v) → Cells m.w O' a (catCells us) v
  | [], a, us, v, hs, hf, _ => by
    simp only [SRels] at hs
    obtain ⟨rfl, rfl⟩ := hs
    simp [catCells, Cells]
  | x :: l, a, us, v, hs, hf, h => by
    simp only [SRels] at hs
    obtain ⟨u, us', rfl, h1, h2⟩ := hs
    rcases h2 with ⟨a, b, rfl, h3, h4, h6, h5⟩ | ⟨h3, h6, rfl, rfl, h4, h7⟩
    · simp only [fieldsT] at hf
      cases hx : f x a with
      | none => simp [hx] at hf
      | some p =>
        cases hl : fieldsT f b l with
        | none => simp [hx, hl] at hf
        | some q =>
          simp [hx, hl] at hf; subst hf
          exact ⟨u.cells.toList, catCells us', by simp [catCells], h x (by simp) a p u hx h1, SRels.cells l h5 hl fun y hy => h y (by simp [hy])⟩
    · have : fieldsT f a [x] = f x a := by cases a <;> first | exact h3.elim | rfl
      rw [this] at hf
      simpa [catCells] using h x (by simp) a v u hf h1

theorem asVal_sound (hn : ∀ r nd, nodes r = some nd → m.nodes r = some nd) (hN : ∀ r nd, m.nodes r = some nd → NodeRel m r nd) (hO : ∀ b, O' b → m.O b) :
    ∀ (n : Nat) (x : Slot) (k : Kind) (v : k.T) (u : Value), asVal nodes n x k = some v → SRel m x u → (∀ r ∈ roots n x, ∀ b, blkOf (m.loc r) = some b → ¬ O' b) → Reg m.w O' k u v
  | 0, _, _, _, _, h, _, _ => by simp [asVal] at h
  | n + 1, .val k' v', k, v, u, h, hs, _ => by
    simp only [asVal] at h
    obtain ⟨rfl, rfl⟩ := cast?_some h
    simp only [SRel] at hs
    exact hs.keep (Keep.less hO)
  | n + 1, .prop p d, k, v, u, h, hs, _ => by
    simp only [asVal] at h
    obtain ⟨rfl, rfl⟩ := cast?_some h
    simp only [SRel] at hs
    subst hs; exact Reg.bool _
  | n + 1, .nils, .slice e, v, u, h, hs, _ => by
    simp only [asVal, Option.some.injEq] at h
    simp only [SRel] at hs
    subst hs; subst h; exact Reg.nil
  | n + 1, .root r, k, v, u, h, hs, hr => by
    simp only [asVal] at h
    cases hq : nodes r with
    | none => simp [hq] at h
    | some nd =>
      cases nd with
      | var => simp [hq] at h
      | mp => simp [hq] at h
      | row ty e l =>
        simp only [hq] at h
        obtain ⟨rfl, rfl⟩ := cast?_some h
        simp only [SRel] at hs
        have hm := hn r _ hq
        rw [hs.2.2 ty e l hm]
        obtain ⟨xs, h1, h2⟩ := hN r _ hm
        exact row_reg h1 h2 hO (hr r (by simp [roots]))
  | n + 1, .sub r lo hi, k, v, u, h, hs, hr => by
    simp only [asVal] at h
    cases hq : nodes r with
    | none => simp [hq] at h
    | some nd =>
      cases nd with
      | var => simp [hq] at h
      | mp => simp [hq] at h
      | row ty e l =>
        simp only [hq] at h
        obtain ⟨rfl, rfl⟩ := cast?_some h
        simp only [SRel] at hs
        have hm := hn r _ hq
        obtain ⟨h0, h1, h2, A, c, h3, h4, h5⟩ := hs.2 ty e l hm
        obtain ⟨xs, h6, h7⟩ := hN r _ hm
        have hlen : ((l.take hi.toNat).drop lo.toNat).length = (hi - lo).toNat := by simp; omega
        subst h3
        show Reg m.w O' (.slice e) _ ((l.take hi.toNat).drop lo.toNat)
        rw [← hlen]
        refine Reg.slice_of (by rw [hlen]; exact h4) ?_
        by_cases hlt : lo < hi
        · right
          obtain ⟨g, nn, cap, h8, h9⟩ := h5.1 hlt
          rcases h6.2 with ⟨h10, _⟩ | ⟨g', cap', cur, h10, _, h11, h12, _, h13, h14⟩
          · rw [h8] at h10; simp at h10
          · rw [h8] at h10; simp at h10
            obtain ⟨rfl, _, _⟩ := h10
            refine ⟨g, _, cur, ty, (0, 0), h9, h11, hr r (by simp [roots]) g (by rw [h8]; rfl), ?_⟩
            have hd := Rows.drop (Cells.len e) lo.toNat (Rows.take (Cells.len e) hi.toNat h7)
            rw [hlen]
            have he : (cur.toList.drop (lo.toNat * width e)).take ((hi - lo).toNat * width e) = (xs.take (hi.toNat * width e)).drop (lo.toNat * width e) := by
              rw [← h14, List.take_take, List.drop_take]
              have hle : hi.toNat * width e ≤ l.length * width e := Nat.mul_le_mul_right _ (by omega)
              rw [Nat.min_eq_left hle, ← Nat.sub_mul]
              congr 2
              omega
            rw [he]
            exact hd.imp fun c x hc => hc.keep (Keep.less hO)
        · left; rw [hlen]; omega
  | n + 1, .agg k' l, .struct a, v, u, h, hs, hr => by
    simp only [asVal] at h
    split at h
    · rename_i hk
      simp only [SRel] at hs
      obtain ⟨a', us, h1, h2, h3⟩ := hs
      subst hk
      cases h1
      subst h2
      unfold Reg; rw [if_pos (by simp [aggB])]
      refine ⟨_, rfl, ?_⟩
      simp only [Cells]
      refine SRels.cells l h3 h fun x hx k v u hv hs => (asVal_sound hn hN hO n x k v u hv hs fun r hr' => hr r ?_).cells
      simp only [roots, List.mem_flatMap]
      exact ⟨x, hx, hr'⟩
    · cases h
  | n + 1, .box b [], .ref k, v, u, h, hs, hr => by
    simp only [asVal] at h
    cases hq : nodes b with
    | none => simp [hq] at h
    | some nd =>
      cases nd with
      | row => simp [hq] at h
      | mp => simp [hq] at h
      | var k' c =>
        cases c <;> simp only [hq] at h <;> (try (cases h; done))
        split at h
        · rename_i hk
          subst hk
          obtain ⟨rfl, rfl⟩ := cast?_some h
          have hm := hn b _ hq
          obtain ⟨g, blk, ty, u', h1, h2, h3, h4, h5, h6⟩ := hN b _ hm
          simp only [SRel] at hs h6
          obtain ⟨g', o, k2, e1, e2, e3⟩ := hs.2 _ _ hm
          rw [h1] at e1
          simp at e1; subst e1
          simp only [pathOff, Option.some.injEq, Prod.mk.injEq] at e2
          obtain ⟨rfl, _⟩ := e2
          unfold Reg; rw [if_neg (by simp [aggB])]
          refine ⟨by rw [e3]; rfl, g, 0, blk, ty, (0, 0), by rw [e3], h2, hr b (by simp [roots]) g (by rw [h1]; rfl), ?_⟩
          have hc := (h6.keep (Keep.less hO)).cells
          rw [h3] at hc
          rw [List.drop_zero, List.take_of_length_le (by rw [← h3, Array.length_toList, h4.size]; exact Nat.le_refl _)]
          exact hc
        · cases h
end
end Go.Fm
