/- The functional machine: stores. -/
import Derived.Test.YtmbcblabfgepfaaDoorFmN
set_option autoImplicit true
set_option linter.unusedVariables false
set_option linter.unusedSimpArgs false
set_option linter.unusedSectionVars false
namespace Go.Fm
variable [Strict]

theorem splice_splice {α : Type} (l m : List α) (f wf o w : Nat) (h1 : o + w ≤ wf) (h2 : f + wf ≤ l.length) :
    l.take f ++ (((l.drop f).take wf).take o ++ m ++ ((l.drop f).take wf).drop (o + w)) ++ l.drop (f + wf) = l.take (f + o) ++ m ++ l.drop (f + (o + w)) := by
  have e1 : l.take (f + o) = l.take f ++ (l.drop f).take o := List.take_add
  have e2 : ((l.drop f).take wf).take o = (l.drop f).take o := by rw [List.take_take, Nat.min_eq_left (by omega)]
  have e3 : l.drop (f + (o + w)) = ((l.drop f).take wf).drop (o + w) ++ l.drop (f + wf) := by
    have h3 : l.drop (f + (o + w)) = (l.drop f).drop (o + w) := by rw [List.drop_drop]
    have h4 : (l.drop f).drop (o + w) = ((l.drop f).take wf ++ (l.drop f).drop wf).drop (o + w) := by rw [List.take_append_drop]
    rw [h3, h4, List.drop_append_of_le_length (by simp; omega), List.drop_drop]
  rw [e1, e2, e3]
  simp only [List.append_assoc]

section
variable {w : World} {O : Nat → Prop}
theorem updP_sound : ∀ {a : Kind} {f o : Nat} {k : Kind} {cs : List Value} {v v' : a.T} {y : Sigma Kind.T} {cy : List Value}, Cells w O a cs v → fieldOff a f = some (o, k) → updP a f y v = some v' → Cells w O y.1 cy y.2 →
    y.1 = k ∧ Cells w O a (cs.take o ++ cy ++ cs.drop (o + width k)) v'
  | .pair a b, 0, o, k, cs, v, v', y, cy, hc, hf, hp, hy => by
    simp [fieldOff] at hf; obtain ⟨rfl, rfl⟩ := hf
    simp only [updP] at hp
    cases hq : cast? y.1 a y.2 with
    | none => simp [hq] at hp
    | some z =>
      simp [hq] at hp; subst hp
      obtain ⟨e, rfl⟩ := cast?_some hq
      obtain ⟨ky, vy⟩ := y
      dsimp only at e; subst e
      obtain ⟨c1, c2, rfl, h1, h2⟩ := hc
      refine ⟨rfl, cy, c2, ?_, hy, h2⟩
      have h3 := h1.length
      rw [List.take_zero, List.nil_append, Nat.zero_add, List.drop_append, List.drop_eq_nil_of_le (by omega), h3, Nat.sub_self]
      simp
  | .pair a b, f + 1, o, k, cs, v, v', y, cy, hc, hf, hp, hy => by
    simp only [fieldOff] at hf
    cases hb : fieldOff b f with
    | none => simp [hb] at hf
    | some x =>
      obtain ⟨o', k'⟩ := x
      simp [hb] at hf; obtain ⟨rfl, rfl⟩ := hf
      simp only [updP] at hp
      cases hq : updP b f y v.2 with
      | none => simp [hq] at hp
      | some z =>
        simp [hq] at hp; subst hp
        obtain ⟨c1, c2, rfl, h1, h2⟩ := hc
        obtain ⟨e, h3⟩ := updP_sound h2 hb hq hy
        refine ⟨e, c1, c2.take o' ++ cy ++ c2.drop (o' + width k'), ?_, h1, h3⟩
        have h4 := h1.length
        rw [List.take_append, List.drop_append, List.take_of_length_le (by omega), List.drop_eq_nil_of_le (by omega), h4]
        rw [show width a + o' - width a = o' by omega, show width a + o' + width k' - width a = o' + width k' by omega]
        simp
  | .unit, f, o, k, cs, v, v', y, cy, hc, hf, hp, hy => by simp [fieldOff] at hf
  | .int _, 0, o, k, cs, v, v', y, cy, hc, hf, hp, hy | .bool, 0, o, k, cs, v, v', y, cy, hc, hf, hp, hy | .str, 0, o, k, cs, v, v', y, cy, hc, hf, hp, hy | .struct _, 0, o, k, cs, v, v', y, cy, hc, hf, hp, hy
  | .slice _, 0, o, k, cs, v, v', y, cy, hc, hf, hp, hy | .arr _ _, 0, o, k, cs, v, v', y, cy, hc, hf, hp, hy | .clo _ _, 0, o, k, cs, v, v', y, cy, hc, hf, hp, hy | .ref _, 0, o, k, cs, v, v', y, cy, hc, hf, hp, hy | .mpk _ _, 0, o, k, cs, v, v', y, cy, hc, hf, hp, hy | .mbx _ _, 0, o, k, cs, v, v', y, cy, hc, hf, hp, hy | .recB _ _ _, 0, o, k, cs, v, v', y, cy, hc, hf, hp, hy | .err, 0, o, k, cs, v, v', y, cy, hc, hf, hp, hy | .fnk, 0, o, k, cs, v, v', y, cy, hc, hf, hp, hy => by
    simp [fieldOff] at hf; obtain ⟨rfl, rfl⟩ := hf
    simp only [updP] at hp
    obtain ⟨e, h1⟩ := cast?_some hp
    obtain ⟨ky, vy⟩ := y
    dsimp only at e; subst e
    dsimp only at h1; subst h1
    have h2 := hc.length
    refine ⟨rfl, ?_⟩
    rw [List.take_zero, List.nil_append, Nat.zero_add, List.drop_eq_nil_of_le (by rw [h2]; exact Nat.le_refl _), List.append_nil]
    exact hy
  | .int _, _ + 1, o, k, cs, v, v', y, cy, hc, hf, hp, hy | .bool, _ + 1, o, k, cs, v, v', y, cy, hc, hf, hp, hy | .str, _ + 1, o, k, cs, v, v', y, cy, hc, hf, hp, hy | .struct _, _ + 1, o, k, cs, v, v', y, cy, hc, hf, hp, hy
  | .slice _, _ + 1, o, k, cs, v, v', y, cy, hc, hf, hp, hy | .arr _ _, _ + 1, o, k, cs, v, v', y, cy, hc, hf, hp, hy | .clo _ _, _ + 1, o, k, cs, v, v', y, cy, hc, hf, hp, hy | .ref _, _ + 1, o, k, cs, v, v', y, cy, hc, hf, hp, hy | .mpk _ _, _ + 1, o, k, cs, v, v', y, cy, hc, hf, hp, hy | .mbx _ _, _ + 1, o, k, cs, v, v', y, cy, hc, hf, hp, hy | .recB _ _ _, _ + 1, o, k, cs, v, v', y, cy, hc, hf, hp, hy | .err, _ + 1, o, k, cs, v, v', y, cy, hc, hf, hp, hy | .fnk, _ + 1, o, k, cs, v, v', y, cy, hc, hf, hp, hy => by
    simp [fieldOff] at hf
theorem upds_sound : ∀ {p : List Nat} {k : Kind} {o : Nat} {k' : Kind} {cs : List Value} {v v' : k.T} {y : Sigma Kind.T} {cy : List Value}, Cells w O k cs v → pathOff k p = some (o, k') → upds p y k v = some v' → Cells w O y.1 cy y.2 →
    y.1 = k' ∧ Cells w O k (cs.take o ++ cy ++ cs.drop (o + width k')) v'
  | [], k, o, k', cs, v, v', y, cy, hc, hf, hp, hy => by
    simp [pathOff] at hf; obtain ⟨rfl, rfl⟩ := hf
    simp only [upds] at hp
    obtain ⟨e, h1⟩ := cast?_some hp
    obtain ⟨ky, vy⟩ := y
    dsimp only at e; subst e
    dsimp only at h1; subst h1
    have h2 := hc.length
    refine ⟨rfl, ?_⟩
    rw [List.take_zero, List.nil_append, Nat.zero_add, List.drop_eq_nil_of_le (by rw [h2]; exact Nat.le_refl _), List.append_nil]
    exact hy
  | f :: p, k, o, k', cs, v, v', y, cy, hc, hf, hp, hy => by
    cases k with
    | struct a =>
      obtain ⟨o1, k1, o2, h1, h2, rfl⟩ := pathOff_struct hf
      simp only [upds, proj] at hp
      cases hq : projP a f v with
      | none => simp [hq] at hp
      | some z =>
        obtain ⟨kz, vz⟩ := z
        simp only [hq] at hp
        obtain ⟨e, h3⟩ := projP_sound (by simpa [Cells] using hc) h1 hq
        dsimp only at e; subst e
        cases hu : upds p y kz vz with
        | none => simp [hu] at hp
        | some v2 =>
          simp only [hu, upd1] at hp
          obtain ⟨e2, h4⟩ := upds_sound h3 h2 hu hy
          obtain ⟨_, h5⟩ := updP_sound (y := ⟨kz, v2⟩) (by simpa [Cells] using hc) h1 hp h4
          refine ⟨e2, ?_⟩
          have hl : cs.length = width a := by simpa [width] using hc.length
          have hle := fieldOff_le h1
          rw [splice_splice cs cy o1 (width kz) o2 (width k') (pathOff_le h2) (by omega)] at h5
          simpa [Cells, Nat.add_assoc] using h5
    | _ => simp [pathOff] at hf
end

section
variable {m : Mem}
theorem explode_ne : ∀ {a : Kind} {v : a.T}, exB a = true → explode a v ≠ []
  | .pair a b, v, _ => by simp [explode]
  | .unit, v, h => by simp [exB] at h
  | .int _, v, _ | .bool, v, _ | .str, v, _ | .struct _, v, _ | .slice _, v, _ | .arr _ _, v, _ | .clo _ _, v, _ | .ref _, v, _ | .mpk _ _, v, _ | .mbx _ _, v, _ | .recB _ _ _, v, _ | .err, v, _ | .fnk, v, _ => by simp [explode]
theorem explode_one {k : Kind} {cs : List Value} {v : k.T} (hn : notPair k) (hu : k ≠ .unit) (he : explode k v = [.val k v]) (hx : (aggB k || Nat.beq (width k) 1) = true) (h : Cells m.w m.O k cs v) : ∃ us, SRels m k (explode k v) us ∧ catCells us = cs := by
  have hk : aggB k = true ∨ width k = 1 := by
    rcases Bool.or_eq_true_iff.1 hx with h | h
    · exact .inl h
    · exact .inr (Nat.eq_of_beq_eq_true h)
  obtain ⟨f1, f2⟩ := Form.of_cells h hk
  refine ⟨[regOf k cs], ?_, by simp [catCells, f2]⟩
  rw [he]
  simp only [SRels]
  exact ⟨_, [], rfl, SRel.valI (Reg.of f1 (by rw [f2]; exact h)), .inr (by refine ⟨hn, hu, ?_, ?_, f1, by simp [fitsD, fits]⟩ <;> first | rfl | trivial)⟩
theorem explode_sound : ∀ {a : Kind} {cs : List Value} {v : a.T}, exB a = true → Cells m.w m.O a cs v → ∃ us, SRels m a (explode a v) us ∧ catCells us = cs
  | .pair a b, cs, v, hx, ⟨c1, c2, he, h1, h2⟩ => by
    subst he
    simp only [exB, Bool.and_eq_true] at hx
    obtain ⟨us, h3, h4⟩ := explode_sound hx.2 h2
    have hk : aggB a = true ∨ width a = 1 := by
      rcases Bool.or_eq_true_iff.1 hx.1 with h | h
      · exact .inl h
      · exact .inr (Nat.eq_of_beq_eq_true h)
    obtain ⟨f1, f2⟩ := Form.of_cells h1 hk
    refine ⟨regOf a c1 :: us, ?_, by simp only [catCells, List.map_cons, List.flatten_cons, f2]; congr 1⟩
    simp only [SRels, explode]
    exact ⟨_, us, rfl, SRel.valI (Reg.of f1 (by rw [f2]; exact h1)), .inl ⟨a, b, rfl, explode_ne hx.2, f1, by simp [fitsD, fits], h3⟩⟩
  | .unit, cs, v, hx, h => by simp [exB] at hx
  | .int ik, cs, v, hx, h => explode_one trivial (by simp) rfl hx h
  | .bool, cs, v, hx, h => explode_one trivial (by simp) rfl hx h
  | .str, cs, v, hx, h => explode_one trivial (by simp) rfl hx h
  | .struct a, cs, v, hx, h => explode_one trivial (by simp) rfl hx h
  | .slice e, cs, v, hx, h => explode_one trivial (by simp) rfl hx h
  | .arr n e, cs, v, hx, h => explode_one trivial (by simp) rfl hx h
  | .clo g c, cs, v, hx, h => explode_one trivial (by simp) rfl hx h
  | .ref a, cs, v, hx, h => explode_one trivial (by simp) rfl hx h
  | .mpk a b, cs, v, hx, h => explode_one trivial (by simp) rfl hx h
  | .mbx a b, cs, v, hx, h => explode_one trivial (by simp) rfl hx h
  | .recB a b _, cs, v, hx, h => explode_one trivial (by simp) rfl hx h
  | .err, cs, v, hx, h => explode_one trivial (by simp) rfl hx h
  | .fnk, cs, v, hx, h => explode_one trivial (by simp) rfl hx h
/-- a field of a struct that is told field by field -/
theorem setP_agg {f : Nat} {p : List Nat} {a : Kind} {l : List Slot} {x x' : Slot} {u uy : Value} {o of : Nat} {k' kf : Kind}
    (IH : ∀ {u : Value} {o : Nat}, Form kf u → fitsD kf x = true → SRel m x u → pathOff kf p = some (o, k') → (aggB kf = true ∨ width kf = 1) → Form k' uy ∧ fitsD kf x' = true ∧ ∃ u', Form kf u' ∧ u'.cells.toList = u.cells.toList.take o ++ uy.cells.toList ++ u.cells.toList.drop (o + width k') ∧ SRel m x' u')
    (hs : SRel m (.agg (.struct a) l) u) (hp : pathOff (.struct a) (f :: p) = some (o, k')) (hq : l[f]? = some x) (hfo : fieldOff a f = some (of, kf)) :
    Form k' uy ∧ fitsD (.struct a) (.agg (.struct a) (l.set f x')) = true ∧ ∃ u', Form (.struct a) u' ∧ u'.cells.toList = u.cells.toList.take o ++ uy.cells.toList ++ u.cells.toList.drop (o + width k') ∧ SRel m (.agg (.struct a) (l.set f x')) u' := by
  simp only [SRel] at hs
  obtain ⟨a', us, h0, rfl, h1⟩ := hs
  cases h0
  obtain ⟨o1, k2, o2, h2, h3, rfl⟩ := pathOff_struct hp
  rw [hfo] at h2; cases h2
  obtain ⟨u2, g1, g2, g3, g4⟩ := SRels_get h1 hq hfo
  have hkf : aggB kf = true ∨ width kf = 1 := by
    unfold Form at g2
    by_cases hc : aggB kf = true
    · exact .inl hc
    · rw [if_neg hc] at g2; exact .inr g2.2
  obtain ⟨h4, h5, u3, h6, h7, h8⟩ := IH g2 g3 g1 h3 hkf
  have hlt : f < l.length := (List.getElem?_eq_some_iff.1 hq).1
  obtain ⟨us', h9, h10⟩ := SRels_set h1 hlt hfo h8 h6 h5
  have hl := SRels_len h1
  have hle := fieldOff_le hfo
  refine ⟨h4, by simp [fitsD, fits], .agg (catCells us').toArray, ?_, ?_, ?_⟩
  · unfold Form; rw [if_pos (by simp [aggB])]; exact ⟨_, rfl, by simpa [width] using SRels_len h9, by simpa using SRels_one h9⟩
  · rw [show (Value.agg (catCells us').toArray).cells.toList = catCells us' from rfl, show (Value.agg (catCells us).toArray).cells.toList = catCells us from rfl]
    rw [h10, h7, ← g4, splice_splice _ _ _ _ _ _ (pathOff_le h3) (by omega)]
    simp [Nat.add_assoc]
  · simp only [SRel]; exact ⟨a, us', rfl, rfl, h9⟩
theorem setP_sound : ∀ {p : List Nat} {c y : Slot} {k : Kind} {u uy : Value} {o : Nat} {k' : Kind} {c' : Slot}, Form k u → fitsD k c = true → SRel m c u → SRel m y uy → pathOff k p = some (o, k') → (aggB k = true ∨ width k = 1) → setP p k y c = some c' →
    Form k' uy ∧ fitsD k c' = true ∧ ∃ u', Form k u' ∧ u'.cells.toList = u.cells.toList.take o ++ uy.cells.toList ++ u.cells.toList.drop (o + width k') ∧ SRel m c' u'
  | [], c, y, k, u, uy, o, k', c', hf, hd, hs, hy, hp, ho, hx => by
    simp [pathOff] at hp; obtain ⟨rfl, rfl⟩ := hp
    simp only [setP] at hx
    split at hx
    · rename_i hfit
      cases hx
      have h1 := fits_form hfit hy
      refine ⟨h1, fitsD_of hfit, uy, h1, ?_, hy⟩
      rw [List.take_zero, List.nil_append, Nat.zero_add, List.drop_eq_nil_of_le (by rw [← hf.size]; simp), List.append_nil]
    · cases hx
  | f :: p, .val k1 v, y, k, u, uy, o, k', c', hf, hd, hs, hy, hp, ho, hx => by
    have := fitsD_val hd; subst this
    simp only [SRel] at hs
    have hu : (aggB k1 = true ∨ width k1 = 1) := ho
    have key : ∀ (ky : Kind) (wy : ky.T) (v' : k1.T), Reg m.w m.O ky uy wy → upds (f :: p) ⟨ky, wy⟩ k1 v = some v' → Form k' uy ∧ ∃ u', Form k1 u' ∧ u'.cells.toList = u.cells.toList.take o ++ uy.cells.toList ++ u.cells.toList.drop (o + width k') ∧ SRel m (.val k1 v') u' := by
      intro ky wy v' hr hq
      obtain ⟨e, h1⟩ := upds_sound hs.cells hp hq hr.cells
      dsimp only at e; subst e
      have h2 := Form.of_cells h1 hu
      exact ⟨hr.form, _, h2.1, h2.2, SRel.valI (Reg.of h2.1 (by rw [h2.2]; exact h1))⟩
    simp only [setP] at hx
    split at hx
    · rename_i ky wy
      split at hx
      · rename_i v' hq
        cases hx
        simp only [SRel] at hy
        obtain ⟨h1, u', h2, h3, h4⟩ := key ky wy v' hy hq
        exact ⟨h1, by simp [fitsD, fits], u', h2, h3, h4⟩
      · cases hx
    · rename_i q d
      split at hx
      · rename_i v' hq
        cases hx
        simp only [SRel] at hy; subst hy
        obtain ⟨h1, u', h2, h3, h4⟩ := key .bool _ v' (Reg.bool _) hq
        exact ⟨h1, by simp [fitsD, fits], u', h2, h3, h4⟩
      · cases hx
    · cases k1 with
      | struct a =>
        cases hex : exB a with
        | false => simp [hex] at hx
        | true =>
          simp only [hex, cond_true] at hx
          cases hq : (explode a v)[f]? with
          | none => simp [hq] at hx
          | some x =>
            cases hfo : fieldOff a f with
            | none => simp [hq, hfo] at hx
            | some z =>
              obtain ⟨of, kf⟩ := z
              simp only [hq, hfo] at hx
              cases hset : setP p kf y x with
              | none => simp [hset] at hx
              | some x' =>
                simp [hset] at hx; subst hx
                have hag : SRel m (.agg (.struct a) (explode a v)) u := by
                  have hr := hs
                  unfold Reg at hr
                  rw [if_pos (by simp [aggB])] at hr
                  obtain ⟨cs, rfl, hc⟩ := hr
                  obtain ⟨us, e1, e2⟩ := explode_sound (m := m) hex (show Cells m.w m.O a cs.toList v from hc)
                  simp only [SRel]
                  exact ⟨a, us, rfl, by rw [e2], e1⟩
                exact setP_agg (fun g2 g3 g1 h3 hkf => setP_sound g2 g3 g1 hy h3 hkf hset) hag hp hq hfo
      | _ => simp at hx
  | f :: p, .agg k1 l, y, k, u, uy, o, k', c', hf, hd, hs, hy, hp, ho, hx => by
    have := fitsD_agg hd; subst this
    cases k1 with
    | struct a =>
      simp only [setP] at hx
      cases hq : l[f]? with
      | none => simp [hq] at hx
      | some x =>
        cases hfo : fieldOff a f with
        | none => simp [hq, hfo] at hx
        | some z =>
          obtain ⟨of, kf⟩ := z
          simp only [hq, hfo] at hx
          cases hset : setP p kf y x with
          | none => simp [hset] at hx
          | some x' =>
            simp [hset] at hx; subst hx
            simp only [SRel] at hs
            obtain ⟨a', us, h0, rfl, h1⟩ := hs
            cases h0
            obtain ⟨o1, k2, o2, h2, h3, rfl⟩ := pathOff_struct hp
            rw [hfo] at h2; cases h2
            obtain ⟨u2, g1, g2, g3, g4⟩ := SRels_get h1 hq hfo
            have hkf : aggB kf = true ∨ width kf = 1 := by
              unfold Form at g2
              by_cases hc : aggB kf = true
              · exact .inl hc
              · rw [if_neg hc] at g2; exact .inr g2.2
            obtain ⟨h4, h5, u3, h6, h7, h8⟩ := setP_sound g2 g3 g1 hy h3 hkf hset
            have hlt : f < l.length := (List.getElem?_eq_some_iff.1 hq).1
            obtain ⟨us', h9, h10⟩ := SRels_set h1 hlt hfo h8 h6 h5
            have hl := SRels_len h1
            have hle := fieldOff_le hfo
            refine ⟨h4, by simp [fitsD, fits], .agg (catCells us').toArray, ?_, ?_, ?_⟩
            · unfold Form; rw [if_pos (by simp [aggB])]; exact ⟨_, rfl, by simpa [width] using SRels_len h9, by simpa using SRels_one h9⟩
            · rw [show (Value.agg (catCells us').toArray).cells.toList = catCells us' from rfl, show (Value.agg (catCells us).toArray).cells.toList = catCells us from rfl]
              rw [h10, h7, ← g4, splice_splice _ _ _ _ _ _ (pathOff_le h3) (by omega)]
              simp [Nat.add_assoc]
            · simp only [SRel]; exact ⟨a, us', rfl, rfl, h9⟩
    | _ => simp [setP] at hx
  | _ :: _, .dead, _, _, _, _, _, _, _, _, _, _, _, _, _, hx | _ :: _, .prop _ _, _, _, _, _, _, _, _, _, _, _, _, _, _, hx | _ :: _, .nils, _, _, _, _, _, _, _, _, _, _, _, _, _, hx | _ :: _, .root _, _, _, _, _, _, _, _, _, _, _, _, _, _, hx
  | _ :: _, .sub _ _ _, _, _, _, _, _, _, _, _, _, _, _, _, _, hx | _ :: _, .box _ _, _, _, _, _, _, _, _, _, _, _, _, _, _, hx | _ :: _, .elem _ _ _, _, _, _, _, _, _, _, _, _, _, _, _, _, hx | _ :: _, .tup _, _, _, _, _, _, _, _, _, _, _, _, _, _, hx => by
    simp [setP] at hx
end

section
variable {P : Program} {cx : Ctx} {st st' : St} {a : Act} {m : Mem} {w0 : World} {O0 : OX} {n : Nat} {R : Type} {r : R} {G : World → Prop} {o : Oper} {K : St → Option R}

/-- rows given away -/
def Mem.cut (m : Mem) (nd : Nat → Option Node) : Mem := { m with nodes := nd }
theorem cut_le {nd : Nat → Option Node} (hsub : ∀ q x, nd q = some x → m.nodes q = some x) : m.le (m.cut nd) where
  keep := ⟨fun _ _ _ => rfl, fun b _ h => h.imp (fun ⟨q, x, h1, h2⟩ => ⟨q, x, hsub q x h1, h2⟩) id⟩
  used := fun q h => h
  loc := fun q _ => rfl
  node := fun q x _ h => .inr ⟨x, hsub q x h, shape.refl x⟩
theorem Ok.cut (hok : Ok m w0 O0) {nd : Nat → Option Node} (hsub : ∀ q x, nd q = some x → m.nodes q = some x) : Ok (m.cut nd) w0 O0 where
  node := fun q x h => (hok.node q x (hsub q x h)).mono (cut_le hsub) (hok.used q x (hsub q x h)) fun _ _ => rfl
  used := fun q x h => hok.used q x (hsub q x h)
  inj := fun q q' x x' b h h' => hok.inj q q' x x' b (hsub q x h) (hsub q' x' h')
  frame := hok.frame
  base := fun b ⟨q, x, h1, h2⟩ => hok.base b ⟨q, x, hsub q x h1, h2⟩
  keeps := hok.keeps
  far := hok.far
theorem Rel.cut (hR : Rel st a m w0 O0 n) {nd : Nat → Option Node} (hsub : ∀ q x, nd q = some x → st.nodes q = some x) : Rel { st with nodes := nd } a (m.cut nd) w0 O0 n := by
  have hsub' : ∀ q x, nd q = some x → m.nodes q = some x := fun q x h => by rw [hR.nodes]; exact hsub q x h
  exact ⟨rfl, hR.used, hR.ok.cut hsub', fun t => SRel.mono (cut_le hsub') _ (hR.slot t), hR.defers, hR.size, hR.fixed⟩
theorem kills_some : ∀ {l : List Nat} {nodes nd : Nat → Option Node}, kills nodes l = some nd → (∀ q x, nd q = some x → nodes q = some x) ∧ ∀ q ∈ l, nd q = none
  | [], nodes, nd, h => by simp [kills] at h; subst h; exact ⟨fun _ _ h => h, by simp⟩
  | r :: l, nodes, nd, h => by
    simp only [kills] at h
    have h : kills (upd nodes r none) l = some nd := by
      split at h
      · exact h
      · exact h
      · cases h
    obtain ⟨h1, h2⟩ := kills_some h
    have h3 : ∀ q x, nd q = some x → nodes q = some x := fun q x hq => by
      have := h1 q x hq
      by_cases hqr : q = r
      · subst hqr; simp [upd_same] at this
      · simpa [upd_other _ _ hqr] using this
    refine ⟨h3, fun q hq => ?_⟩
    rcases List.mem_cons.1 hq with rfl | hq
    · cases hn : nd q with
      | none => rfl
      | some x => have := h1 q x hn; simp [upd_same] at this
    · exact h2 q hq

/-- a node's content turned -/
def Mem.set (m : Mem) (w' : World) (q : Nat) (nd : Node) : Mem := ⟨w', upd m.nodes q (some nd), m.used, m.loc, m.X⟩
theorem set_le {q g : Nat} {nd nd' : Node} (hn : m.nodes q = some nd) (hsh : shape nd nd') (hg : Blk (m.loc q) g) (cs : Array Value) : m.le (m.set (m.w.setRow g cs) q nd') where
  keep := ⟨fun b _ hb => setRow_other m.w g b cs fun e => hb (by subst e; exact .inl ⟨q, nd, hn, hg⟩), fun b _ h => h.imp (fun ⟨q', x, h1, h2⟩ => by
    by_cases hq : q' = q
    · subst hq; exact ⟨q', nd, hn, h2⟩
    · exact ⟨q', x, by simpa [Mem.set, upd_other _ _ hq] using h1, h2⟩) id⟩
  used := fun q h => h
  loc := fun q _ => rfl
  node := fun q' x _ h => by
    by_cases hq : q' = q
    · subst hq; simp only [Mem.set, upd_same] at h; cases h; exact .inr ⟨nd, hn, hsh⟩
    · exact .inr ⟨x, by simpa [Mem.set, upd_other _ _ hq] using h, shape.refl x⟩
theorem Rel.set (hR : Rel st a m w0 O0 n) {q g : Nat} {nd nd' : Node} (hn : st.nodes q = some nd) (hsh : shape nd nd') (hg : Blk (m.loc q) g) (cs : Array Value) (hnode : NodeRel (m.set (m.w.setRow g cs) q nd') q nd') :
    Rel (st.setNode q (some nd')) a (m.set (m.w.setRow g cs) q nd') w0 O0 n := by
  have hn' : m.nodes q = some nd := by rw [hR.nodes]; exact hn
  have hle := set_le hn' hsh hg cs
  have hback : ∀ q' x, (m.set (m.w.setRow g cs) q nd').nodes q' = some x → ∃ x', m.nodes q' = some x' ∧ (q' ≠ q → x' = x) := fun q' x h => by
    by_cases hq : q' = q
    · subst hq; exact ⟨nd, hn', fun h => absurd rfl h⟩
    · exact ⟨x, by simpa [Mem.set, upd_other _ _ hq] using h, fun _ => rfl⟩
  refine ⟨by simp [Mem.set, St.setNode, hR.nodes], hR.used, ?_, fun t => SRel.mono hle _ (hR.slot t), hR.defers, hR.size, hR.fixed⟩
  refine hR.ok.change rfl ⟨rfl, ⟨rfl, fun _ => Nat.le_refl _⟩, rfl, by simp [Mem.set], fun b _ hb => setRow_other m.w g b cs fun e => hb (by subst e; exact ⟨q, nd, hn', hg⟩)⟩ ?_ ?_ ?_ ?_
  · intro q' x h
    by_cases hq : q' = q
    · subst hq; simp only [Mem.set, upd_same] at h; cases h; exact hnode
    · obtain ⟨x', h1, h2⟩ := hback q' x h
      have := h2 hq; subst this
      refine (hR.ok.node q' x' h1).mono hle (hR.ok.used q' x' h1) fun b hb => setRow_other m.w g b cs fun e => hq ?_
      subst e; exact hR.ok.inj q' q x' nd b h1 hn' hb hg
  · intro q' x h
    obtain ⟨x', h1, _⟩ := hback q' x h
    exact hR.ok.used q' x' h1
  · rintro b ⟨q', x, h1, h2⟩
    obtain ⟨x', h3, _⟩ := hback q' x h1
    exact .inl ⟨q', x', h3, h2⟩
  · intro q1 q2 x1 x2 b h1 h2 h3 h4
    obtain ⟨y1, h5, _⟩ := hback q1 x1 h1
    obtain ⟨y2, h6, _⟩ := hback q2 x2 h2
    exact hR.ok.inj q1 q2 y1 y2 b h5 h6 h3 h4

theorem run_storeOp {t : TypeId} {p x : Operand} (ho : o.op = .store t p x) {A : Addr} (hp : a.eval p = .pointer (some A)) {w w' : World} (h : (storeVar t A (a.eval x)).run P w = .ok () w') :
    (execOp a.eval o).run P w = .ok .skip w' := by
  simp [execOp, ho, Instr.storeAt, Instr.sureAddr, hp, h]
end
end Go.Fm
