/- The functional machine: first contents, and structs built. -/
import Derived.Test.YtmbcblabfgepfaaDoorFmJ
set_option autoImplicit true
set_option linter.unusedVariables false
set_option linter.unusedSimpArgs false
set_option linter.unusedSectionVars false
namespace Go.Fm
variable [Strict]

theorem wf_one {k : Kind} (h : (wfB k).1 = true) : aggB k = true ∨ width k = 1 := by
  cases k <;> simp [wfB] at h <;> simp [aggB, width]
theorem Cells_zero {w : World} {O : Nat → Prop} : ∀ (k : Kind), ((wfB k).1 = true ∨ (wfB k).2 = true) → Cells w O k (zcells k) (zeroT k)
  | .unit, _ => rfl
  | .int _, _ => rfl
  | .bool, _ => rfl
  | .str, _ => rfl
  | .pair a b, h => by
    simp [wfB] at h
    exact ⟨zcells a, zcells b, rfl, Cells_zero a (.inl h.1.1), Cells_zero b (.inr h.1.2)⟩
  | .struct a, h => by
    simp [wfB] at h
    exact Cells_zero a (.inr h)
  | .slice e, _ => ⟨none, 0, rfl, by simp [zeroT], .inl rfl⟩
  | .arr n e, h => by
    simp [wfB] at h
    exact ⟨by simp [zeroT], Rows.replicate (Cells_zero e (.inl h)) n⟩
  | .clo _ _, h => by simp [wfB] at h
  | .ref _, h => by simp [wfB] at h
  | .mpk _ _, h => by simp [wfB] at h
  | .mbx _ _, h => by simp [wfB] at h
  | .recB _ _ _, h => by simp [wfB] at h
  | .err, h => by simp [wfB] at h
  | .fnk, _ => ⟨_, rfl, .inl rfl⟩

section
variable {m : Mem}
theorem SRels_single {k : Kind} {x : Slot} {u : Value} (h1 : notPair k) (h2 : k ≠ .unit) (h3 : SRel m x u) (h4 : Form k u) (h5 : fitsD k x = true) : SRels m k [x] [u] := by
  simp only [SRels]
  refine ⟨u, [], rfl, h3, .inr ⟨h1, h2, ?_, ?_, h4, h5⟩⟩ <;> first | trivial | rfl
theorem zeroF_ne {b : Kind} (h : (wfB b).2 = true) (hb : b ≠ .unit) : zeroF b ≠ [] := by
  cases b <;> simp [wfB] at h <;> simp [zeroF, zeroB]
  exact absurd rfl hb
theorem zero_sound : ∀ (k : Kind), ((wfB k).1 = true → ∃ u, u.cells.toList = zcells k ∧ Form k u ∧ fitsD k (zeroS k) = true ∧ SRel m (zeroS k) u) ∧
    ((wfB k).2 = true → ∃ us, SRels m k (zeroF k) us ∧ catCells us = zcells k)
  | .unit => ⟨fun h => by simp [wfB] at h, fun _ => ⟨[], by simp [zeroF, zeroB, SRels], by simp [catCells, zcells]⟩⟩
  | .int k => by
    have h1 : SRel m (zeroS (.int k)) (.int k 0) := SRel.int k 0
    have h2 : Form (.int k) (.int k 0) := by unfold Form; rw [if_neg (by simp [aggB])]; exact ⟨rfl, rfl⟩
    have h3 : fitsD (.int k) (zeroS (.int k)) = true := by simp [zeroS, zeroB, fitsD, fits]
    exact ⟨fun _ => ⟨_, rfl, h2, h3, h1⟩, fun _ => ⟨[.int k 0], SRels_single trivial (by simp) h1 h2 h3, rfl⟩⟩
  | .bool => by
    have h1 : SRel m (zeroS .bool) (.bool false) := SRel.bool false
    have h2 : Form .bool (.bool false) := by unfold Form; rw [if_neg (by simp [aggB])]; exact ⟨rfl, rfl⟩
    have h3 : fitsD .bool (zeroS .bool) = true := by simp [zeroS, zeroB, fitsD, fits]
    exact ⟨fun _ => ⟨_, rfl, h2, h3, h1⟩, fun _ => ⟨[.bool false], SRels_single trivial (by simp) h1 h2 h3, rfl⟩⟩
  | .str => by
    have h1 : SRel m (zeroS .str) (.string ⟨#[]⟩) := SRel.str _
    have h2 : Form .str (.string ⟨#[]⟩) := by unfold Form; rw [if_neg (by simp [aggB])]; exact ⟨rfl, rfl⟩
    have h3 : fitsD .str (zeroS .str) = true := by simp [zeroS, zeroB, fitsD, fits]
    exact ⟨fun _ => ⟨_, rfl, h2, h3, h1⟩, fun _ => ⟨[.string ⟨#[]⟩], SRels_single trivial (by simp) h1 h2 h3, rfl⟩⟩
  | .slice e => by
    have h1 : SRel m (zeroS (.slice e)) (.slice none 0 0) := by simp [zeroS, zeroB, SRel]
    have h2 : Form (.slice e) (.slice none 0 0) := by unfold Form; rw [if_neg (by simp [aggB])]; exact ⟨rfl, rfl⟩
    have h3 : fitsD (.slice e) (zeroS (.slice e)) = true := by simp [zeroS, zeroB, fitsD, fits]
    exact ⟨fun _ => ⟨_, rfl, h2, h3, h1⟩, fun _ => ⟨[.slice none 0 0], SRels_single trivial (by simp) h1 h2 h3, rfl⟩⟩
  | .pair a b => by
    refine ⟨fun h => by simp [wfB] at h, fun h => ?_⟩
    simp [wfB] at h
    obtain ⟨u, h1, h2, h3, h4⟩ := (zero_sound a).1 h.1.1
    obtain ⟨us, h5, h6⟩ := (zero_sound b).2 h.1.2
    have hne := zeroF_ne h.1.2 (fun e => by subst e; simp at h)
    refine ⟨u :: us, ?_, by simp [catCells, zcells, h1, ← h6]⟩
    show SRels m (.pair a b) (zeroS a :: zeroF b) (u :: us)
    simp only [SRels]
    exact ⟨u, us, rfl, h4, .inl ⟨a, b, rfl, hne, h2, h3, h5⟩⟩
  | .struct a => by
    have key : (wfB a).2 = true → ∃ u, u.cells.toList = zcells a ∧ Form (.struct a) u ∧ fitsD (.struct a) (zeroS (.struct a)) = true ∧ SRel m (zeroS (.struct a)) u := by
      intro h
      obtain ⟨us, h5, h6⟩ := (zero_sound a).2 h
      have hc := Cells_zero (w := m.w) (O := m.O) a (.inr h)
      refine ⟨.agg (zcells a).toArray, rfl, ?_, ?_, ?_⟩
      · unfold Form; rw [if_pos (by simp [aggB])]; exact ⟨_, rfl, by simpa [width] using hc.length, by simpa using hc.one⟩
      · cases hs : hasSlice a <;> simp [zeroS, zeroB, hs, fitsD, fits]
      · cases hs : hasSlice a
        · simp only [zeroS, zeroB, hs, cond_false, SRel]
          unfold Reg; rw [if_pos (by simp [aggB])]; exact ⟨_, rfl, by simpa [Cells] using hc⟩
        · simp only [zeroS, zeroB, hs, cond_true, SRel]
          exact ⟨a, us, rfl, by rw [h6], h5⟩
    refine ⟨fun h => key (by simpa [wfB] using h), fun h => ?_⟩
    obtain ⟨u, h1, h2, h3, h4⟩ := key (by simpa [wfB] using h)
    refine ⟨[u], ?_, by simp [catCells, h1, zcells]⟩
    exact SRels_single trivial (by simp) h4 h2 h3
  | .arr k e => by
    have key : (wfB (.arr k e)).1 = true → ∃ u, u.cells.toList = zcells (.arr k e) ∧ Form (.arr k e) u ∧ fitsD (.arr k e) (zeroS (.arr k e)) = true ∧ SRel m (zeroS (.arr k e)) u := by
      intro h
      have hc := Cells_zero (w := m.w) (O := m.O) (.arr k e) (.inl h)
      refine ⟨.agg (zcells (.arr k e)).toArray, rfl, ?_, ?_, ?_⟩
      · unfold Form; rw [if_pos (by simp [aggB])]; exact ⟨_, rfl, by simpa using hc.length, by simpa using hc.one⟩
      · cases hs : hasSlice e <;> simp [zeroS, zeroB, hs, fitsD, fits]
      · cases hs : hasSlice e
        · simp only [zeroS, zeroB, hs, cond_false, SRel]
          unfold Reg; rw [if_pos (by simp [aggB])]; exact ⟨_, rfl, by simpa [zeroT] using hc⟩
        · simp only [zeroS, zeroB, hs, cond_true, SRel]
    refine ⟨key, fun h => ?_⟩
    obtain ⟨u, h1, h2, h3, h4⟩ := key (by simpa [wfB] using h)
    refine ⟨[u], ?_, by simp [catCells, h1]⟩
    exact SRels_single trivial (by simp) h4 h2 h3
  | .clo _ _ => ⟨fun h => by simp [wfB] at h, fun h => by simp [wfB] at h⟩
  | .ref _ => ⟨fun h => by simp [wfB] at h, fun h => by simp [wfB] at h⟩
  | .mpk _ _ => ⟨fun h => by simp [wfB] at h, fun h => by simp [wfB] at h⟩
  | .mbx _ _ => ⟨fun h => by simp [wfB] at h, fun h => by simp [wfB] at h⟩
  | .recB _ _ _ => ⟨fun h => by simp [wfB] at h, fun h => by simp [wfB] at h⟩
  | .err => ⟨fun h => by simp [wfB] at h, fun h => by simp [wfB] at h⟩
  | .fnk => by
    have h1 : SRel m (zeroS .fnk) .nilFunc := by
      simp only [zeroS, zeroB, SRel]
      unfold Reg; rw [if_neg (by simp [aggB])]; exact ⟨rfl, _, rfl, .inl rfl⟩
    have h2 : Form .fnk .nilFunc := by unfold Form; rw [if_neg (by simp [aggB])]; exact ⟨rfl, rfl⟩
    have h3 : fitsD .fnk (zeroS .fnk) = true := by simp [zeroS, zeroB, fitsD, fits]
    exact ⟨fun _ => ⟨_, rfl, h2, h3, h1⟩, fun _ => ⟨[.nilFunc], SRels_single trivial (by simp) h1 h2 h3, rfl⟩⟩

theorem fits_form {k : Kind} {x : Slot} {u : Value} (h : fits k x = true) (hs : SRel m x u) : Form k u := by
  cases x <;> simp only [fits] at h <;> (try (cases h; done))
  · rename_i k' v
    simp at h; subst h; simp only [SRel] at hs; exact hs.form
  · simp at h; subst h; simp only [SRel] at hs; subst hs
    unfold Form; rw [if_neg (by simp [aggB])]; exact ⟨rfl, rfl⟩
  · cases k <;> simp at h
    simp only [SRel] at hs; subst hs
    unfold Form; rw [if_neg (by simp [aggB])]; exact ⟨rfl, rfl⟩
  · cases k <;> simp at h
    simp only [SRel] at hs
    obtain ⟨_, ⟨A, n, c, rfl⟩, _⟩ := hs
    unfold Form; rw [if_neg (by simp [aggB])]; exact ⟨rfl, rfl⟩
  · cases k <;> simp at h
    simp only [SRel] at hs
    obtain ⟨_, _, A, n, c, rfl⟩ := hs
    unfold Form; rw [if_neg (by simp [aggB])]; exact ⟨rfl, rfl⟩
  · cases k <;> simp at h
    simp only [SRel] at hs
    obtain ⟨_, _, _, A, n, c, rfl⟩ := hs
    unfold Form; rw [if_neg (by simp [aggB])]; exact ⟨rfl, rfl⟩
  · simp at h; subst h; simp only [SRel] at hs
    obtain ⟨a, us, rfl, rfl, h1⟩ := hs
    unfold Form; rw [if_pos (by simp [aggB])]; exact ⟨_, rfl, by simpa [width] using SRels_len h1, by simpa using SRels_one h1⟩
  · simp at h; subst h; simp only [SRel] at hs
    obtain ⟨us, rfl, _⟩ := hs
    unfold Form; rw [if_neg (by simp [aggB])]; exact ⟨rfl, rfl⟩
theorem fitsD_of {k : Kind} {x : Slot} (h : fits k x = true) : fitsD k x = true := by simp [fitsD, h]

theorem SRels_set : ∀ {l : List Slot} {b : Kind} {us : List Value} {f o : Nat} {k : Kind} {x : Slot} {v : Value}, SRels m b l us → f < l.length → fieldOff b f = some (o, k) → SRel m x v → Form k v → fitsD k x = true →
    ∃ us', SRels m b (l.set f x) us' ∧ catCells us' = (catCells us).take o ++ v.cells.toList ++ (catCells us).drop (o + width k)
  | [], b, us, f, o, k, x, v, h, hl, _, _, _, _ => by simp at hl
  | y :: l, b, us, f, o, k, x, v, h, hl, hf, hx, hv, hd => by
    simp only [SRels] at h
    obtain ⟨u, us', rfl, h1, h2⟩ := h
    rcases h2 with ⟨b1, b2, rfl, h3, h4, h6, h5⟩ | ⟨h3, h6, rfl, rfl, h4, h7⟩
    · have hs := h4.size
      have hs' : u.cells.toList.length = width b1 := by simpa using hs
      cases f with
      | zero =>
        simp [fieldOff] at hf; obtain ⟨rfl, rfl⟩ := hf
        refine ⟨v :: us', ?_, ?_⟩
        · show SRels m (.pair b1 b2) (x :: l) (v :: us')
          simp only [SRels]; exact ⟨v, us', rfl, hx, .inl ⟨b1, b2, rfl, h3, hv, hd, h5⟩⟩
        · simp only [catCells, List.map_cons, List.flatten_cons, List.take_zero, List.nil_append, Nat.zero_add]
          rw [List.drop_append, List.drop_eq_nil_of_le (by omega), hs', Nat.sub_self]; simp
      | succ f =>
        simp only [fieldOff] at hf
        cases hb : fieldOff b2 f with
        | none => simp [hb] at hf
        | some z =>
          obtain ⟨o', k'⟩ := z
          simp [hb] at hf; obtain ⟨rfl, rfl⟩ := hf
          obtain ⟨us2, g1, g2⟩ := SRels_set h5 (by simpa using hl) hb hx hv hd
          refine ⟨u :: us2, ?_, ?_⟩
          · show SRels m (.pair b1 b2) (y :: l.set f x) (u :: us2)
            simp only [SRels]
            exact ⟨u, us2, rfl, h1, .inl ⟨b1, b2, rfl, by intro e; apply h3; exact List.eq_nil_of_length_eq_zero (by have := congrArg List.length e; simpa using this), h4, h6, g1⟩⟩
          · simp only [catCells, List.map_cons, List.flatten_cons] at g2 ⊢
            have e1 : List.take (width b1 + o') u.cells.toList = u.cells.toList := List.take_of_length_le (by omega)
            have e2 : List.drop (width b1 + o' + width k') u.cells.toList = [] := List.drop_eq_nil_of_le (by omega)
            rw [g2, List.take_append, e1, List.drop_append, e2, hs']
            rw [show width b1 + o' - width b1 = o' by omega, show width b1 + o' + width k' - width b1 = o' + width k' by omega]
            simp
    · cases f with
      | zero =>
        have hf' : fieldOff b 0 = some (0, b) := by cases b <;> first | exact h3.elim | exact (h6 rfl).elim | rfl
        rw [hf'] at hf; simp at hf; obtain ⟨rfl, rfl⟩ := hf
        have hs' : u.cells.toList.length = width b := by simpa using h4.size
        refine ⟨[v], SRels_single h3 h6 hx hv hd, ?_⟩
        simp [catCells, ← hs']
      | succ f => simp at hl

theorem foldl_put : ∀ (vs : List Value) (off k : Nat) (cells : Array Value), off + k + vs.length ≤ cells.size →
    ((vs.zipIdx k).foldl (fun cs (x : Value × Nat) => cs.setIfInBounds (off + x.2) x.1) cells).toList = cells.toList.take (off + k) ++ vs ++ cells.toList.drop (off + k + vs.length)
  | [], off, k, cells, h => by simp
  | v :: vs, off, k, cells, h => by
    simp only [List.zipIdx_cons, List.foldl_cons]
    rw [foldl_put vs off (k + 1) _ (by simp at h ⊢; omega)]
    simp only [Array.toList_setIfInBounds, List.length_cons] at h ⊢
    have hlt : off + k < cells.toList.length := by simp; omega
    rw [show off + (k + 1) = off + k + 1 by omega, List.take_succ_eq_append_getElem (by simpa using hlt), List.getElem_set_self, List.take_set_of_le (Nat.le_refl _), List.drop_set_of_lt (by omega)]
    simp only [List.append_assoc, List.singleton_append]
    rw [show off + k + 1 + vs.length = off + k + (vs.length + 1) by omega]

theorem fill_sound {b : Kind} {place : Nat → Option (Nat × Nat)} (hp : ∀ i o k, fieldOff b i = some (o, k) → place i = some (o, width k)) :
    ∀ (ps : List (Nat × Slot)) (vs : List (Nat × Value)) (fs : List Slot) (us : List Value) (cells : Array Value) (fs' : List Slot), ps.length = vs.length → (∀ j (h : j < ps.length) (h' : j < vs.length), (vs[j]).1 = (ps[j]).1 ∧ SRel m (ps[j]).2 (vs[j]).2) →
      SRels m b fs us → cells.toList = catCells us → (∀ i o k, fieldOff b i = some (o, k) → i < fs.length) → buildF b fs ps = some fs' → ∃ us' cells', SRels m b fs' us' ∧ cells'.toList = catCells us' ∧ Instr.fill place cells vs = some cells'
  | [], [], fs, us, cells, fs', _, _, hs, hc, _, hb => by
    simp [buildF] at hb; subst hb
    exact ⟨us, cells, hs, hc, rfl⟩
  | (i, x) :: ps, (i', v) :: vs, fs, us, cells, fs', hl, hv, hs, hc, hlen, hb => by
    have h0 := hv 0 (by simp) (by simp)
    simp at h0
    obtain ⟨rfl, hx⟩ := h0
    simp only [buildF] at hb
    cases hf : fieldOff b i' with
    | none => simp [hf] at hb
    | some z =>
      obtain ⟨o, k⟩ := z
      simp only [hf] at hb
      cases hfit : fits k x with
      | false => simp [hfit] at hb
      | true =>
        simp only [hfit, cond_true] at hb
        have hform := fits_form hfit hx
        have hi := hlen i' o k hf
        obtain ⟨us2, g1, g2⟩ := SRels_set hs hi hf hx hform (fitsD_of hfit)
        have hsz := hform.size
        have hsz' : v.cells.toList.length = width k := by simpa using hsz
        have hle := fieldOff_le hf
        have hcs : cells.size = width b := by rw [← Array.length_toList, hc]; exact SRels_len hs
        have hput := foldl_put v.cells.toList o 0 cells (by simp [hsz]; omega)
        have hcell : (v.cells.zipIdx.foldl (fun cs (x : Value × Nat) => cs.setIfInBounds (o + x.2) x.1) cells).toList = catCells us2 := by
          rw [g2, ← Array.foldl_toList, Array.toList_zipIdx, hput, hc]
          simp [hsz]
        obtain ⟨us3, cells3, g3, g4, g5⟩ := fill_sound hp ps vs (fs.set i' x) us2 _ fs' (by simpa using hl) (fun j h h' => by have := hv (j + 1) (by simpa using h) (by simpa using h'); simpa using this) g1 hcell (fun i o k h => by simpa using hlen i o k h) hb
        refine ⟨us3, cells3, g3, g4, ?_⟩
        simp only [Instr.fill, hp i' o k hf]
        rw [if_neg (by simp [hsz]; omega)]
        exact g5
end
end Go.Fm
