/- The functional machine: operations that leave memory alone: slicing, building. -/
import Derived.Test.YtmbcblabfgepfaaDoorFmI
set_option autoImplicit true
set_option linter.unusedVariables false
set_option linter.unusedSimpArgs false
set_option linter.unusedSectionVars false
namespace Go.Fm
variable [Strict]

section
variable {P : Program} {cx : Ctx} {st : St} {a : Act} {m : Mem} {w0 : World} {O0 : OX} {n : Nat} {R : Type} {C : Slot → Option R} {r : R}

theorem cutE_some {lo hi : Option Int} {n : Int} {C : Int → Int → Option R} (hn : 0 ≤ n) (h : cutE lo hi n C = some r) :
    ∃ l h : Int, C l h = some r ∧ 0 ≤ l ∧ l ≤ h ∧ h ≤ n ∧ (lo = some l ∨ lo = none ∧ l = 0) ∧ (hi = some h ∨ hi = none ∧ h = n) := by
  unfold cutE at h
  cases hi with
  | none =>
    cases lo with
    | none => exact ⟨0, n, h, by omega, hn, by omega, .inr ⟨rfl, rfl⟩, .inr ⟨rfl, rfl⟩⟩
    | some l =>
      simp only at h
      split at h
      · split at h
        · exact ⟨l, n, h, by omega, by omega, by omega, .inl rfl, .inr ⟨rfl, rfl⟩⟩
        · cases h
      · cases h
  | some hh =>
    simp only at h
    split at h
    · split at h
      · cases lo with
        | none => exact ⟨0, hh, h, by omega, by omega, by omega, .inr ⟨rfl, rfl⟩, .inl rfl⟩
        | some l =>
          simp only at h
          split at h
          · split at h
            · exact ⟨l, hh, h, by omega, by omega, by omega, .inl rfl, .inl rfl⟩
            · cases h
          · cases h
      · cases h
    · cases h
theorem boundE_some (hR : Rel st a m w0 O0 n) {y : Option Operand} {C : Option Int → Option R} (h : boundE st y C = some r) : ∃ i, C i = some r ∧ y.map a.eval = i.map (Value.int .i64) := by
  unfold boundE at h
  cases y with
  | none => exact ⟨none, h, rfl⟩
  | some y =>
    simp only at h
    obtain ⟨i, h1, h2⟩ := onInt_some h
    exact ⟨some i, h2, by simp [int_of (evalS_sound hR y) h1]⟩
theorem run_bounds {isSlice : Bool} {len cap : Nat} {lo hi : Option Int} {l h : Int} (h0 : 0 ≤ l) (h1 : l ≤ h) (h2 : h ≤ (len : Int)) (h3 : len ≤ cap) (hlo : lo = some l ∨ lo = none ∧ l = 0) (hhi : hi = some h ∨ hi = none ∧ h = (len : Int)) (w' : World) :
    (Instr.sliceBounds isSlice len cap (lo.map (Value.int .i64)) (hi.map (Value.int .i64)) none).run P w' = .ok (l.toNat, h.toNat, cap) w' := by
  have e1 : h ≤ (cap : Int) := by omega
  have e2 : 0 ≤ h := by omega
  have e3 : l ≤ ((h.toNat : Nat) : Int) := by omega
  rcases hhi with rfl | ⟨rfl, rfl⟩ <;> rcases hlo with rfl | ⟨rfl, rfl⟩ <;>
    simp [Instr.sliceBounds, Instr.sliceBound, asIntOf, e1, e2, h0, e3, h2] <;> (intro h9; exfalso; omega)

/-- a part of a row or of a text: no memory is read -/
theorem slice_any (hT : TypesOK P cx) (hR : Rel st a m w0 O0 n) (t : TypeId) (x : Operand) (lo hi mx : Option Operand) (h : softC cx st (.slice t x lo hi mx) C = some r) :
    ∃ s, C s = some r ∧ ∃ u, SRel m s u ∧ ∀ o : Oper, o.op = .slice t x lo hi mx → ∀ w', (execOp a.eval o).run P w' = .ok (.value u) w' := by
  have hx := evalS_sound hR x
  simp only [softC] at h
  split at h
  · cases h
  · obtain ⟨lo', h, hlo⟩ := boundE_some hR h
    obtain ⟨hi', h, hhi⟩ := boundE_some hR h
    have run {u v : Value} (hu : a.eval x = u) {w' : World} (hv : (Instr.sliceAt t u (lo'.map (Value.int .i64)) (hi'.map (Value.int .i64)) none).run P w' = .ok v w') {o : Oper} (ho : o.op = .slice t x lo hi none) :
        (execOp a.eval o).run P w' = .ok (.value v) w' := by
      simp only [execOp, ho, hu, hlo, hhi, Option.map_none, Sem.run_bind, hv, Result.andThen_ok, Sem.run_pure]
    split at h
    · rename_i s he
      split at h
      · rename_i hk
        rw [he] at hx; simp only [SRel] at hx
        obtain ⟨l, hh, h1, h2, h3, h4, h5, h6⟩ := cutE_some (by omega) h
        have hu := kd_str hT hk
        refine ⟨_, h1, _, (SRel.str _), fun o ho w' => run hx.str_inv ?_ ho⟩
        have hb := run_bounds (P := P) (isSlice := false) (len := ByteArray.size s) (cap := ByteArray.size s) h2 h3 h4 (Nat.le_refl _) h5 h6 w'
        simp [Instr.sliceAt, run_underlying hu, Instr.slice, hb]
      · cases h
    · rename_i e s he
      split at h
      · rename_i hk
        rw [he] at hx; simp only [SRel] at hx
        obtain ⟨l, hh, h1, h2, h3, h4, h5, h6⟩ := cutE_some (by omega) h
        obtain ⟨te, g2, g3, g4, g5, g6, g7⟩ := kd_slice hT hk
        obtain ⟨A, cap, g8, g9, g10⟩ := hx.slice_inv
        have hlen : ((List.take hh.toNat s).drop l.toNat).length = hh.toNat - l.toNat := by simp; omega
        refine ⟨_, h1, (.slice (if cap = l.toNat then A else A.map (·.add (l.toNat * width e))) (hh.toNat - l.toNat) (cap - l.toNat)), (SRel.valI ?_), fun o ho w' => run g8 ?_ ho⟩
        · rw [← hlen]
          refine Reg.slice_of (by rw [hlen]; omega) ?_
          by_cases hz : hh.toNat - l.toNat = 0
          · left; rw [hlen]; exact hz
          · right
            rcases g10 with g10 | ⟨b, off, blk, ty, fr, rfl, g11, g12, g13⟩
            · omega
            · rw [if_neg (by omega)]
              refine ⟨b, off + l.toNat * width e, blk, ty, fr, by simp [addr_add], g11, g12, ?_⟩
              have := Rows.drop (Cells.len e) l.toNat (Rows.take (Cells.len e) hh.toNat g13)
              rw [hlen]
              have he : (blk.toList.drop (off + l.toNat * width e)).take ((hh.toNat - l.toNat) * width e) = (((blk.toList.drop off).take (List.length s * width e)).take (hh.toNat * width e)).drop (l.toNat * width e) := by
                rw [List.take_take, List.drop_take, List.drop_drop]
                have hle : hh.toNat * width e ≤ List.length s * width e := Nat.mul_le_mul_right _ (by omega)
                rw [Nat.min_eq_left hle, ← Nat.sub_mul]
              rw [he]; exact this
        · have hb := run_bounds (P := P) (isSlice := true) (len := List.length s) (cap := cap) h2 h3 h4 g9 h5 h6 w'
          simp [Instr.sliceAt, run_underlying g2, Instr.slice, hb, g4.sizeOf w']
      · cases h
    · rename_i q he
      split at h
      · rename_i ty e s hn
        split at h
        · rename_i hk
          rw [he] at hx; simp only [SRel] at hx
          obtain ⟨l, hh, h1, h2, h3, h4, h5, h6⟩ := cutE_some (by omega) h
          obtain ⟨te, g2, g3, g4, g5, g6, g7⟩ := kd_slice hT hk
          have hn' : m.nodes q = some (.row ty e s) := by rw [hR.nodes]; exact hn
          obtain ⟨xs, g8, _⟩ := row_loc hR hn
          obtain ⟨A, cap, g9, g10, g11⟩ := row_val g8
          have hx' := (hx.2.2 ty e s hn').trans g9
          refine ⟨_, h1, (.slice (if cap = l.toNat then A else A.map (·.add (l.toNat * width e))) (hh.toNat - l.toNat) (cap - l.toNat)), ?_, fun o ho w' => run hx' ?_ ho⟩
          · simp only [SRel]
            refine ⟨hx.1, fun ty2 e2 l2 hn2 => ?_⟩
            rw [hn'] at hn2; cases hn2
            refine ⟨h2, h3, h4, _, _, by rw [show (hh - l).toNat = hh.toNat - l.toNat by omega], by omega, fun hlt => ?_, fun hl0 => ?_⟩
            · obtain ⟨g, rfl⟩ := g11 (by omega)
              exact ⟨g, _, cap, g9, by rw [if_neg (by omega)]; simp [addr_add]⟩
            · subst hl0
              refine ⟨s.length, g9.trans ?_⟩
              have hA : A = none ∨ ∃ g, A = some ⟨g, 0, none⟩ := by
                rcases g8.2 with ⟨hv, _⟩ | ⟨g, cap', cur, hv, _⟩
                · rw [g9] at hv; simp at hv; exact .inl hv.1
                · rw [g9] at hv; simp at hv; exact .inr ⟨g, hv.1⟩
              rcases hA with rfl | ⟨g, rfl⟩
              · simp
              · by_cases hc : cap = 0 <;> simp [hc, addr_add]
          · have hb := run_bounds (P := P) (isSlice := true) (len := s.length) (cap := cap) h2 h3 h4 g10 h5 h6 w'
            simp [Instr.sliceAt, run_underlying g2, Instr.slice, hb, g4.sizeOf w']
        · cases h
      · cases h
    · cases h
theorem soft_slice (hT : TypesOK P cx) (hR : Rel st a m w0 O0 n) (t : TypeId) (x : Operand) (lo hi mx : Option Operand) (h : softC cx st (.slice t x lo hi mx) C = some r) :
    ∃ s, C s = some r ∧ QOp P (.slice t x lo hi mx) a m s := by
  obtain ⟨s, h1, u, h2, h3⟩ := slice_any (P := P) hT hR t x lo hi mx h
  exact ⟨s, h1, .run u h2 fun o ho w' _ => h3 o ho w'⟩
end
end Go.Fm
