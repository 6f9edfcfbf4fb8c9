/- The functional machine: parts of what a slot holds. -/
import Derived.Test.YtmbcblabfgepfaaDoorFmE
set_option autoImplicit true
set_option linter.unusedVariables false
set_option linter.unusedSimpArgs false
set_option linter.unusedSectionVars false
namespace Go.Fm
variable [Strict]

theorem fieldOff_le : ∀ {a : Kind} {f o : Nat} {k : Kind}, fieldOff a f = some (o, k) → o + width k ≤ width a
  | .pair a b, 0, o, k, h => by simp [fieldOff] at h; obtain ⟨rfl, rfl⟩ := h; simp [width]
  | .pair a b, f + 1, o, k, h => by
    simp only [fieldOff] at h
    cases hb : fieldOff b f with
    | none => simp [hb] at h
    | some x =>
      obtain ⟨o', k'⟩ := x
      simp [hb] at h; obtain ⟨rfl, rfl⟩ := h
      have := fieldOff_le hb
      simp only [width]; omega
  | .unit, f, o, k, h => by simp [fieldOff] at h
  | .int _, 0, o, k, h | .bool, 0, o, k, h | .str, 0, o, k, h | .struct _, 0, o, k, h | .slice _, 0, o, k, h | .arr _ _, 0, o, k, h | .clo _ _, 0, o, k, h | .ref _, 0, o, k, h | .mpk _ _, 0, o, k, h | .mbx _ _, 0, o, k, h | .recB _ _ _, 0, o, k, h | .err, 0, o, k, h | .fnk, 0, o, k, h => by
    simp [fieldOff] at h; obtain ⟨rfl, rfl⟩ := h; simp
  | .int _, _ + 1, o, k, h | .bool, _ + 1, o, k, h | .str, _ + 1, o, k, h | .struct _, _ + 1, o, k, h | .slice _, _ + 1, o, k, h | .arr _ _, _ + 1, o, k, h | .clo _ _, _ + 1, o, k, h | .ref _, _ + 1, o, k, h | .mpk _ _, _ + 1, o, k, h | .mbx _ _, _ + 1, o, k, h | .recB _ _ _, _ + 1, o, k, h | .err, _ + 1, o, k, h | .fnk, _ + 1, o, k, h => by
    simp [fieldOff] at h
theorem pathOff_le : ∀ {p : List Nat} {k : Kind} {o : Nat} {k' : Kind}, pathOff k p = some (o, k') → o + width k' ≤ width k
  | [], k, o, k', h => by simp [pathOff] at h; obtain ⟨rfl, rfl⟩ := h; simp
  | f :: p, k, o, k', h => by
    cases k <;> simp [pathOff] at h
    rename_i a
    cases hf : fieldOff a f with
    | none => simp [hf] at h
    | some x =>
      obtain ⟨o1, k1⟩ := x
      simp only [hf] at h
      cases hp : pathOff k1 p with
      | none => simp [hp] at h
      | some y =>
        obtain ⟨o2, k2⟩ := y
        simp [hp] at h; obtain ⟨rfl, rfl⟩ := h
        have h1 := fieldOff_le hf
        have h2 := pathOff_le hp
        simp only [width]; omega
theorem pathOff_struct {a : Kind} {f : Nat} {p : List Nat} {o : Nat} {k' : Kind} (h : pathOff (.struct a) (f :: p) = some (o, k')) :
    ∃ o1 k1 o2, fieldOff a f = some (o1, k1) ∧ pathOff k1 p = some (o2, k') ∧ o = o1 + o2 := by
  simp only [pathOff] at h
  cases hf : fieldOff a f with
  | none => simp [hf] at h
  | some x =>
    obtain ⟨o1, k1⟩ := x
    simp only [hf] at h
    cases hp : pathOff k1 p with
    | none => simp [hp] at h
    | some y =>
      obtain ⟨o2, k2⟩ := y
      simp [hp] at h; obtain ⟨rfl, rfl⟩ := h
      exact ⟨o1, k1, o2, rfl, hp, rfl⟩
theorem pathOff_snoc : ∀ {p : List Nat} {k : Kind} {o : Nat} {a : Kind} {f : Nat} {o1 : Nat} {k1 : Kind}, pathOff k p = some (o, .struct a) → fieldOff a f = some (o1, k1) → pathOff k (p ++ [f]) = some (o + o1, k1)
  | [], k, o, a, f, o1, k1, h, hf => by simp [pathOff] at h; obtain ⟨rfl, rfl⟩ := h; simp [pathOff, hf]
  | g :: p, k, o, a, f, o1, k1, h, hf => by
    cases k <;> simp [pathOff] at h
    rename_i b
    cases hg : fieldOff b g with
    | none => simp [hg] at h
    | some x =>
      obtain ⟨o2, k2⟩ := x
      simp only [hg] at h
      cases hp : pathOff k2 p with
      | none => simp [hp] at h
      | some y =>
        obtain ⟨o3, k3⟩ := y
        simp [hp] at h; obtain ⟨rfl, rfl⟩ := h
        simp [pathOff, hg, pathOff_snoc hp hf, Nat.add_assoc]

theorem take_drop_add {α : Type} (l : List α) (o1 o2 n w : Nat) (h : o2 + n ≤ w) : (l.drop (o1 + o2)).take n = (((l.drop o1).take w).drop o2).take n := by
  rw [List.drop_take, List.take_take, List.drop_drop, Nat.min_eq_left (by omega)]

section
variable {w : World} {O : Nat → Prop}
theorem projP_sound : ∀ {a : Kind} {f o : Nat} {k : Kind} {cs : List Value} {v : a.T} {y : Sigma Kind.T}, Cells w O a cs v → fieldOff a f = some (o, k) → projP a f v = some y →
    ∃ e : y.1 = k, Cells w O k ((cs.drop o).take (width k)) (e ▸ y.2)
  | .pair a b, 0, o, k, cs, v, y, hc, hf, hp => by
    simp [fieldOff] at hf; obtain ⟨rfl, rfl⟩ := hf
    simp [projP] at hp; subst hp
    obtain ⟨c1, c2, rfl, h1, h2⟩ := hc
    refine ⟨rfl, ?_⟩
    rw [List.drop_zero, List.take_append, h1.length, Nat.sub_self, List.take_zero, List.append_nil, List.take_of_length_le (by rw [h1.length]; omega)]
    exact h1
  | .pair a b, f + 1, o, k, cs, v, y, hc, hf, hp => by
    simp only [fieldOff] at hf
    cases hb : fieldOff b f with
    | none => simp [hb] at hf
    | some x =>
      obtain ⟨o', k'⟩ := x
      simp [hb] at hf; obtain ⟨rfl, rfl⟩ := hf
      simp only [projP] at hp
      obtain ⟨c1, c2, rfl, h1, h2⟩ := hc
      obtain ⟨e, h3⟩ := projP_sound h2 hb hp
      refine ⟨e, ?_⟩
      rw [List.drop_append, h1.length, List.drop_eq_nil_of_le (by rw [h1.length]; omega), List.nil_append, show width a + o' - width a = o' by omega]
      exact h3
  | .unit, f, o, k, cs, v, y, hc, hf, hp => by simp [fieldOff] at hf
  | .int _, 0, o, k, cs, v, y, hc, hf, hp | .bool, 0, o, k, cs, v, y, hc, hf, hp | .str, 0, o, k, cs, v, y, hc, hf, hp | .struct _, 0, o, k, cs, v, y, hc, hf, hp
  | .slice _, 0, o, k, cs, v, y, hc, hf, hp | .arr _ _, 0, o, k, cs, v, y, hc, hf, hp | .clo _ _, 0, o, k, cs, v, y, hc, hf, hp | .ref _, 0, o, k, cs, v, y, hc, hf, hp | .mpk _ _, 0, o, k, cs, v, y, hc, hf, hp | .mbx _ _, 0, o, k, cs, v, y, hc, hf, hp | .recB _ _ _, 0, o, k, cs, v, y, hc, hf, hp | .err, 0, o, k, cs, v, y, hc, hf, hp | .fnk, 0, o, k, cs, v, y, hc, hf, hp => by
    simp [fieldOff] at hf; obtain ⟨rfl, rfl⟩ := hf
    simp [projP] at hp; subst hp
    refine ⟨rfl, ?_⟩
    rw [List.drop_zero, List.take_of_length_le (by rw [hc.length]; exact Nat.le_refl _)]
    exact hc
  | .int _, _ + 1, o, k, cs, v, y, hc, hf, hp | .bool, _ + 1, o, k, cs, v, y, hc, hf, hp | .str, _ + 1, o, k, cs, v, y, hc, hf, hp | .struct _, _ + 1, o, k, cs, v, y, hc, hf, hp
  | .slice _, _ + 1, o, k, cs, v, y, hc, hf, hp | .arr _ _, _ + 1, o, k, cs, v, y, hc, hf, hp | .clo _ _, _ + 1, o, k, cs, v, y, hc, hf, hp | .ref _, _ + 1, o, k, cs, v, y, hc, hf, hp | .mpk _ _, _ + 1, o, k, cs, v, y, hc, hf, hp | .mbx _ _, _ + 1, o, k, cs, v, y, hc, hf, hp | .recB _ _ _, _ + 1, o, k, cs, v, y, hc, hf, hp | .err, _ + 1, o, k, cs, v, y, hc, hf, hp | .fnk, _ + 1, o, k, cs, v, y, hc, hf, hp => by
    simp [fieldOff] at hf
theorem projs_sound : ∀ {p : List Nat} {k : Kind} {o : Nat} {k' : Kind} {cs : List Value} {v : k.T} {y : Sigma Kind.T}, Cells w O k cs v → pathOff k p = some (o, k') → projs p ⟨k, v⟩ = some y →
    ∃ e : y.1 = k', Cells w O k' ((cs.drop o).take (width k')) (e ▸ y.2)
  | [], k, o, k', cs, v, y, hc, hf, hp => by
    simp [pathOff] at hf; obtain ⟨rfl, rfl⟩ := hf
    simp [projs] at hp; subst hp
    refine ⟨rfl, ?_⟩
    rw [List.drop_zero, List.take_of_length_le (by rw [hc.length]; exact Nat.le_refl _)]
    exact hc
  | f :: p, k, o, k', cs, v, y, hc, hf, hp => by
    cases k with
    | struct a =>
      obtain ⟨o1, k1, o2, h1, h2, rfl⟩ := pathOff_struct hf
      simp only [projs, proj] at hp
      cases hq : projP a f v with
      | none => simp [hq] at hp
      | some z =>
        simp only [hq] at hp
        obtain ⟨e, h3⟩ := projP_sound (by simpa [Cells] using hc) h1 hq
        obtain ⟨kz, vz⟩ := z
        dsimp only at e; subst e
        obtain ⟨e2, h4⟩ := projs_sound h3 h2 hp
        refine ⟨e2, ?_⟩
        rw [take_drop_add _ _ _ _ (width kz) (pathOff_le h2)]
        exact h4
    | _ => simp [pathOff] at hf
/-- a path that is there has its place -/
theorem projP_off : ∀ {a : Kind} {f : Nat} {v : a.T} {y : Sigma Kind.T}, projP a f v = some y → ∃ o, fieldOff a f = some (o, y.1)
  | .pair a b, 0, v, y, hp => by simp [projP] at hp; subst hp; exact ⟨0, rfl⟩
  | .pair a b, f + 1, v, y, hp => by
    simp only [projP] at hp
    obtain ⟨o, h⟩ := projP_off hp
    exact ⟨width a + o, by simp only [fieldOff, h]⟩
  | .unit, f, v, y, hp => by simp [projP] at hp
  | .int _, 0, v, y, hp | .bool, 0, v, y, hp | .str, 0, v, y, hp | .struct _, 0, v, y, hp | .slice _, 0, v, y, hp | .arr _ _, 0, v, y, hp | .clo _ _, 0, v, y, hp | .ref _, 0, v, y, hp | .mpk _ _, 0, v, y, hp | .mbx _ _, 0, v, y, hp | .recB _ _ _, 0, v, y, hp | .err, 0, v, y, hp | .fnk, 0, v, y, hp => by
    simp [projP] at hp; subst hp; exact ⟨0, rfl⟩
  | .int _, _ + 1, v, y, hp | .bool, _ + 1, v, y, hp | .str, _ + 1, v, y, hp | .struct _, _ + 1, v, y, hp | .slice _, _ + 1, v, y, hp | .arr _ _, _ + 1, v, y, hp | .clo _ _, _ + 1, v, y, hp | .ref _, _ + 1, v, y, hp | .mpk _ _, _ + 1, v, y, hp | .mbx _ _, _ + 1, v, y, hp | .recB _ _ _, _ + 1, v, y, hp | .err, _ + 1, v, y, hp | .fnk, _ + 1, v, y, hp => by
    simp [projP] at hp
theorem proj_off {k : Kind} {f : Nat} {v : k.T} {y : Sigma Kind.T} (h : proj k f v = some y) : ∃ a o, k = .struct a ∧ fieldOff a f = some (o, y.1) := by
  cases k <;> simp [proj] at h
  obtain ⟨o, h1⟩ := projP_off h
  exact ⟨_, o, rfl, h1⟩
theorem projs_off : ∀ {p : List Nat} {k : Kind} {v : k.T} {y : Sigma Kind.T}, projs p ⟨k, v⟩ = some y → ∃ o, pathOff k p = some (o, y.1)
  | [], k, v, y, hp => by simp [projs] at hp; subst hp; exact ⟨0, rfl⟩
  | f :: p, k, v, y, hp => by
    simp only [projs] at hp
    cases hq : proj k f v with
    | none => simp [hq] at hp
    | some z =>
      simp only [hq] at hp
      obtain ⟨a, o, rfl, h1⟩ := proj_off hq
      obtain ⟨o', h2⟩ := projs_off (k := z.1) (v := z.2) hp
      exact ⟨o + o', by simp only [pathOff, h1, h2]⟩
end

section
variable {m : Mem}
theorem SRels_len : ∀ {l : List Slot} {a : Kind} {us : List Value}, SRels m a l us → (catCells us).length = width a
  | [], a, us, h => by simp only [SRels] at h; obtain ⟨rfl, rfl⟩ := h; simp [catCells, width]
  | x :: l, a, us, h => by
    simp only [SRels] at h
    obtain ⟨u, us', rfl, h1, h2⟩ := h
    rcases h2 with ⟨a, b, rfl, h3, h4, h6, h5⟩ | ⟨h3, h6, rfl, rfl, h4, h7⟩
    · have := SRels_len h5
      have hs := h4.size
      simp only [catCells, List.map_cons, List.flatten_cons, List.length_append, width]
      unfold catCells at this
      rw [this, ← hs]
      simp
    · have := h4.size
      simpa [catCells] using this
theorem SRels_one : ∀ {l : List Slot} {a : Kind} {us : List Value}, SRels m a l us → ∀ c ∈ catCells us, c.oneCell' = true
  | [], a, us, h => by simp only [SRels] at h; obtain ⟨rfl, rfl⟩ := h; simp [catCells]
  | x :: l, a, us, h => by
    simp only [SRels] at h
    obtain ⟨u, us', rfl, h1, h2⟩ := h
    rcases h2 with ⟨a, b, rfl, h3, h4, h6, h5⟩ | ⟨h3, h6, rfl, rfl, h4, h7⟩
    · intro c hc
      simp only [catCells, List.map_cons, List.flatten_cons, List.mem_append] at hc
      rcases hc with hc | hc
      · exact h4.ones c hc
      · exact SRels_one h5 c hc
    · intro c hc
      simp only [catCells, List.map_cons, List.map_nil, List.flatten_cons, List.flatten_nil, List.append_nil] at hc
      exact h4.ones c hc
theorem SRels_get : ∀ {l : List Slot} {a : Kind} {us : List Value} {f o : Nat} {k : Kind} {x : Slot}, SRels m a l us → l[f]? = some x → fieldOff a f = some (o, k) →
    ∃ u, SRel m x u ∧ Form k u ∧ fitsD k x = true ∧ ((catCells us).drop o).take (width k) = u.cells.toList
  | [], a, us, f, o, k, x, h, hl, hf => by simp at hl
  | y :: l, a, us, f, o, k, x, h, hl, hf => by
    simp only [SRels] at h
    obtain ⟨u, us', rfl, h1, h2⟩ := h
    rcases h2 with ⟨a, b, rfl, h3, h4, h6, h5⟩ | ⟨h3, h6, rfl, rfl, h4, h7⟩
    · have hs := h4.size
      cases f with
      | zero =>
        simp [fieldOff] at hf; obtain ⟨rfl, rfl⟩ := hf
        simp at hl; subst hl
        refine ⟨u, h1, h4, h6, ?_⟩
        simp only [catCells, List.map_cons, List.flatten_cons, List.drop_zero]
        rw [List.take_append, List.take_of_length_le (by simp [hs]), show width a - u.cells.toList.length = 0 by simp [hs]]
        simp
      | succ f =>
        simp only [fieldOff] at hf
        cases hb : fieldOff b f with
        | none => simp [hb] at hf
        | some z =>
          obtain ⟨o', k'⟩ := z
          simp [hb] at hf; obtain ⟨rfl, rfl⟩ := hf
          obtain ⟨u2, g1, g2, g3, g4⟩ := SRels_get h5 (by simpa using hl) hb
          refine ⟨u2, g1, g2, g3, ?_⟩
          simp only [catCells, List.map_cons, List.flatten_cons] at *
          rw [List.drop_append, List.drop_eq_nil_of_le (by simp [hs]), List.nil_append, show width a + o' - u.cells.toList.length = o' by simp [hs]]
          exact g4
    · cases f with
      | zero =>
        have hf' : fieldOff a 0 = some (0, a) := by cases a <;> first | exact h3.elim | exact (h6 rfl).elim | rfl
        rw [hf'] at hf; simp at hf; obtain ⟨rfl, rfl⟩ := hf
        simp at hl; subst hl
        refine ⟨u, h1, h4, h7, ?_⟩
        have hs := h4.size
        simp [catCells, ← hs]
        rw [List.take_of_length_le (by simp)]
      | succ f => simp at hl

theorem fitsD_val {k k' : Kind} {v : k'.T} (h : fitsD k (.val k' v) = true) : k' = k := by simpa [fitsD, fits] using h
theorem fitsD_agg {k k' : Kind} {l : List Slot} (h : fitsD k (.agg k' l) = true) : k' = k := by simpa [fitsD, fits] using h

theorem getP_sound : ∀ {p : List Nat} {c : Slot} {k : Kind} {u : Value} {o : Nat} {k' : Kind} {x : Slot}, Form k u → fitsD k c = true → SRel m c u → pathOff k p = some (o, k') → oneB k' = true → getP p c = some x →
    SRel m x (regOf k' ((u.cells.toList.drop o).take (width k'))) ∧ Form k' (regOf k' ((u.cells.toList.drop o).take (width k'))) ∧ fitsD k' x = true
  | [], c, k, u, o, k', x, hf, hd, hs, hp, ho, hx => by
    simp [pathOff] at hp; obtain ⟨rfl, rfl⟩ := hp
    simp [getP] at hx; subst hx
    rw [List.drop_zero, List.take_of_length_le (by rw [← hf.size]; simp), hf.reg]
    exact ⟨hs, hf, hd⟩
  | f :: p, .val k1 v, k, u, o, k', x, hf, hd, hs, hp, ho, hx => by
    have := fitsD_val hd; subst this
    simp only [getP] at hx
    cases hq : projs (f :: p) ⟨k1, v⟩ with
    | none => simp [hq] at hx
    | some y =>
      obtain ⟨k2, v2⟩ := y
      simp [hq] at hx; subst hx
      simp only [SRel] at hs
      obtain ⟨e, h1⟩ := projs_sound hs.cells hp hq
      dsimp only at e; subst e
      have h2 := Form.of_cells h1 (by simpa [oneB, Bool.or_eq_true] using ho)
      refine ⟨?_, h2.1, by simp [fitsD, fits]⟩
      simp only [SRel]
      exact Reg.of h2.1 (by rw [h2.2]; exact h1)
  | f :: p, .agg k1 l, k, u, o, k', x, hf, hd, hs, hp, ho, hx => by
    have := fitsD_agg hd; subst this
    simp only [getP] at hx
    cases hq : l[f]? with
    | none => simp [hq] at hx
    | some y =>
      simp only [hq] at hx
      simp only [SRel] at hs
      obtain ⟨a, us, rfl, rfl, h1⟩ := hs
      obtain ⟨o1, k2, o2, h2, h3, rfl⟩ := pathOff_struct hp
      obtain ⟨u2, g1, g2, g3, g4⟩ := SRels_get h1 hq h2
      have := getP_sound g2 g3 g1 h3 ho hx
      rw [take_drop_add _ _ _ _ (width k2) (pathOff_le h3)]
      simp only [Value.cells] at *
      rw [g4]
      exact this
  | _ :: _, .dead, _, _, _, _, _, _, _, _, _, _, hx | _ :: _, .prop _ _, _, _, _, _, _, _, _, _, _, _, hx | _ :: _, .nils, _, _, _, _, _, _, _, _, _, _, hx | _ :: _, .root _, _, _, _, _, _, _, _, _, _, _, hx
  | _ :: _, .sub _ _ _, _, _, _, _, _, _, _, _, _, _, hx | _ :: _, .box _ _, _, _, _, _, _, _, _, _, _, _, hx | _ :: _, .elem _ _ _, _, _, _, _, _, _, _, _, _, _, hx | _ :: _, .tup _, _, _, _, _, _, _, _, _, _, _, hx => by
    simp [getP] at hx
end
end Go.Fm
