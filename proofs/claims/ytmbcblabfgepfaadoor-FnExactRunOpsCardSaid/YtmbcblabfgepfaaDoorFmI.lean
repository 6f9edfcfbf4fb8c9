/- The functional machine: operations that leave memory alone: places. -/
import Derived.Test.YtmbcblabfgepfaaDoorFmH
set_option autoImplicit true
set_option linter.unusedVariables false
set_option linter.unusedSimpArgs false
set_option linter.unusedSectionVars false
namespace Go.Fm
variable [Strict]

section
variable {P : Program} {cx : Ctx} {st : St} {a : Act} {m : Mem} {w0 : World} {O0 : OX} {n : Nat} {R : Type} {C : Slot → Option R} {r : R}

theorem width_dk (e : Kind) : width (dk e) = width e := by cases e <;> rfl
theorem run_indexOp {o : Oper} {t te : TypeId} {x i : Operand} (ho : o.op = .indexAddr t x i) (hu : P.underlying t = some (.slice te)) {e : Kind} (hi : Info P te e) {b off len cap : Nat} {j : Int}
    (hx : a.eval x = .slice (some ⟨b, off, none⟩) len cap) (hj : a.eval i = .int .i64 j) (h0 : 0 ≤ j) (h1 : j < len) (w' : World) :
    (execOp a.eval o).run P w' = .ok (.value (.pointer (some ⟨b, off + j.toNat * width e, none⟩))) w' := by
  simp [execOp, ho, hx, hj, Instr.indexAt, asIntOf, run_underlying hu, h0, h1, hi.sizeOf w', addr_add]

theorem kd_arr (hT : TypesOK P cx) {t : TypeId} {k : Nat} {e : Kind} (h : .arr k e = cx.kd t) : ∃ te, P.underlying t = some (.array k te) ∧ cx.kd te = e ∧ Info P te e ∧ Info P t (.arr k e) ∧ (wfB (.arr k e)).1 = true := by
  have ht := hT.ty t (by rw [← h]; simp)
  unfold tyOK at ht
  rw [← h] at ht
  split at ht <;> (try (rename_i e2; cases e2)) <;> (try (cases ht; done))
  rename_i n te hu
  simp only [Bool.and_eq_true, decide_eq_true_eq] at ht
  obtain ⟨⟨⟨⟨⟨⟨h1, h2⟩, h3⟩, h4⟩, h5⟩, h6⟩, h7⟩ := ht
  subst h1
  exact ⟨te, hu, h3, Info.of h5, Info.of h4, h2⟩
theorem lenD_hdr (hR : Rel st a m w0 O0 n) {q : Nat} {nd : Node} (hn : st.nodes q = some nd) {e : Kind} {len : Nat} (h : lenD nd = some (e, len)) : ∃ A c, hdr (m.loc q) = some (.slice A len c) := by
  have hn' : m.nodes q = some nd := by rw [hR.nodes]; exact hn
  have hN := hR.ok.node q _ hn'
  cases nd <;> simp only [lenD, Option.some.injEq, Prod.mk.injEq] at h <;> (try (cases h; done))
  · obtain ⟨rfl, rfl⟩ := h
    exact DeepR.hdr hN
  · obtain ⟨rfl, rfl⟩ := h
    obtain ⟨v, hD, hh, _⟩ := hN
    rw [hh]
    exact hD.hdr
theorem lenD_ptr (hR : Rel st a m w0 O0 n) {q : Nat} {nd : Node} (hn : st.nodes q = some nd) {e : Kind} {len : Nat} (h : lenD nd = some (e, len)) (h1 : 0 < len) : ∃ g c, hdr (m.loc q) = some (.slice (some ⟨g, 0, none⟩) len c) := by
  have hn' : m.nodes q = some nd := by rw [hR.nodes]; exact hn
  have hN := hR.ok.node q _ hn'
  cases nd <;> simp only [lenD, Option.some.injEq, Prod.mk.injEq] at h <;> (try (cases h; done))
  · obtain ⟨rfl, rfl⟩ := h
    exact deep_ptr hN h1
  · obtain ⟨rfl, rfl⟩ := h
    obtain ⟨v, hD, hh, _⟩ := hN
    rw [hh]
    exact deep_ptr hD h1
theorem soft_indexAddr (hT : TypesOK P cx) (hR : Rel st a m w0 O0 n) (t : TypeId) (x i : Operand) (h : softC cx st (.indexAddr t x i) C = some r) :
    ∃ s, C s = some r ∧ QOp P (.indexAddr t x i) a m s := by
  have hx := evalS_sound hR x
  have hi := evalS_sound hR i
  simp only [softC] at h
  obtain ⟨j, h1, h⟩ := onInt_some h
  have hj := int_of hi h1
  split at h
  · rename_i e l he
    split at h
    · rename_i hk
      split at h
      · rename_i h0
        split at h
        · rename_i hlt
          rw [he] at hx; simp only [SRel] at hx
          obtain ⟨te, h2, h3, h4, h5, h6, h7⟩ := kd_slice hT hk
          obtain ⟨A, cap, h8, h9, h10⟩ := hx.slice_inv
          have hjl : j.toNat < List.length l := by omega
          rcases h10 with h10 | ⟨b, off, blk, ty, fr, rfl, h11, h12, h13⟩
          · omega
          · have hc := Rows.get (Cells.len e) j.toNat h13 hjl
            have hrd : rdT e l j = l[j.toNat] := by simp [rdT, hjl]
            rw [← hrd] at hc
            have hle : j.toNat * width e + width e ≤ List.length l * width e := by
              have := Nat.mul_le_mul_right (width e) (show j.toNat + 1 ≤ List.length l from hjl)
              rw [Nat.add_mul] at this; omega
            rw [← take_drop_add _ _ _ _ _ hle] at hc
            refine ⟨_, h, .run (.pointer (some ⟨b, off + j.toNat * width e, none⟩)) (SRel.valI ?_) fun o ho w' hg => run_indexOp ho h2 h4 h8 hj h0 hlt w'⟩
            unfold Reg; rw [if_neg (by simp [aggB])]
            exact ⟨rfl, b, _, blk, ty, fr, rfl, h11, h12, hc⟩
        · cases h
      · cases h
    · cases h
  · rename_i q he
    split at h
    · rename_i ty e l hn
      split at h
      · rename_i hk
        split at h
        · rename_i h0
          split at h
          · rename_i hlt
            rw [he] at hx; simp only [SRel] at hx
            obtain ⟨te, h2, h3, h4, h5, h6, h7⟩ := kd_slice hT hk
            have hn' : m.nodes q = some (.row ty e l) := by rw [hR.nodes]; exact hn
            obtain ⟨xs, h8, _⟩ := row_loc hR hn
            obtain ⟨A, c, h9, h10, h11⟩ := row_val h8
            obtain ⟨g, rfl⟩ := h11 (by omega)
            have hx' := (hx.2.2 ty e l hn').trans h9
            refine ⟨_, h, .run (.pointer (some ⟨g, 0 + j.toNat * width e, none⟩)) ?_ fun o ho w' hg => run_indexOp ho h2 h4 hx' hj h0 hlt w'⟩
            simp only [SRel]
            refine ⟨hx.1, fun ty' e' l' hn2 => ?_⟩
            rw [hn'] at hn2; cases hn2
            exact ⟨h0, hlt, g, _, c, 0, e, h9, rfl, by simp⟩
          · cases h
        · cases h
      · cases h
    · cases h
  · rename_i q he
    split at h
    · rename_i nd hn
      split at h
      · rename_i e len e0 hld hk
        split at h
        · rename_i hdk
          subst hdk
          split at h
          · rename_i h0
            split at h
            · rename_i hlt
              rw [he] at hx; simp only [SRel] at hx
              obtain ⟨te, h2, h3, h4, h5, h6, h7⟩ := kd_slice hT hk.symm
              obtain ⟨g, c, h9⟩ := lenD_ptr hR hn hld (by omega)
              have hx' : a.eval x = .slice (some ⟨g, 0, none⟩) len c := by rw [h9] at hx; exact (Option.some.inj hx.2.1).symm
              refine ⟨_, h, .run (.pointer (some ⟨g, 0 + j.toNat * width e0, none⟩)) ?_ fun o ho w' hg => run_indexOp ho h2 h4 hx' hj h0 hlt w'⟩
              simp only [SRel]
              exact ⟨hx.1, h0, g, len, c, 0, dk e0, h9, hlt, rfl, by simp [width_dk]⟩
            · cases h
          · cases h
        · cases h
      · cases h
    · cases h
  · -- an array of rows
    rename_i q e i0 he
    split at h
    · rename_i nd hn
      split at h
      · rename_i e1 len k e0 hld hk
        split at h
        · rename_i hdk
          subst hdk
          split at h
          · rename_i hi0
            subst hi0
            split at h
            · rename_i hlk
              split at h
              · rename_i h0
                split at h
                · rename_i hlt
                  rw [he] at hx; simp only [SRel] at hx
                  obtain ⟨hus, _, g, nn, cap, o', k', h9, h10, h11, h12⟩ := hx
                  simp only [pathOff, Option.some.injEq, Prod.mk.injEq] at h11
                  obtain ⟨rfl, rfl⟩ := h11
                  obtain ⟨te, h2, h3, h4, h5, h6⟩ := kd_arr hT hk.symm
                  obtain ⟨A, c, hA⟩ := lenD_hdr hR hn hld
                  have hnn : nn = len := by rw [hA] at h9; simp at h9; exact h9.2.1.symm
                  have hx' : a.eval x = .pointer (some ⟨g, 0, none⟩) := by simpa using h12
                  refine ⟨_, h, .run (.pointer (some ⟨g, j.toNat * width e0, none⟩)) ?_ fun o ho w' hg => ?_⟩
                  · simp only [SRel]
                    exact ⟨hus, h0, g, nn, cap, 0, dk e0, h9, by omega, rfl, by simp [width_dk]⟩
                  · simp [execOp, ho, hx', hj, Instr.indexAt, asIntOf, run_underlying h2, h0, hlt, h4.sizeOf w', addr_add, Instr.sureAddr]
                · cases h
              · cases h
            · cases h
          · cases h
        · cases h
      · cases h
    · cases h
  · rename_i q lo hi' he
    split at h
    · rename_i ty e l hn
      split at h
      · rename_i hk
        split at h
        · rename_i h0
          split at h
          · rename_i hlt
            rw [he] at hx; simp only [SRel] at hx
            obtain ⟨te, h2, h3, h4, h5, h6, h7⟩ := kd_slice hT hk
            have hn' : m.nodes q = some (.row ty e l) := by rw [hR.nodes]; exact hn
            obtain ⟨g0, g1, g2, A, c, h8, h9, h10⟩ := hx.2 ty e l hn'
            obtain ⟨g, nn, cap, h11, rfl⟩ := h10.1 (by omega)
            refine ⟨_, h, .run (.pointer (some ⟨g, lo.toNat * width e + j.toNat * width e, none⟩)) ?_ fun o ho w' hg => run_indexOp ho h2 h4 h8 hj h0 (by omega) w'⟩
            simp only [SRel]
            refine ⟨hx.1, fun ty' e' l' hn2 => ?_⟩
            rw [hn'] at hn2; cases hn2
            refine ⟨by omega, by omega, g, nn, cap, 0, e, h11, rfl, ?_⟩
            rw [show (lo + j).toNat = lo.toNat + j.toNat by omega, Nat.add_mul]; simp
          · cases h
        · cases h
      · cases h
    · cases h
  · rename_i b he
    split at h
    · rename_i k e c hn
      split at h
      · rename_i hk
        split at h
        · rename_i h0
          split at h
          · rename_i hlt
            rw [he] at hx
            obtain ⟨te, h2, h3, h4, h5, h6⟩ := kd_arr hT hk
            have hn' : m.nodes b = some (.var (.arr k e) c) := by rw [hR.nodes]; exact hn
            simp only [SRel] at hx
            obtain ⟨g, o', k', g1, g2, g3⟩ := hx.2 _ c hn'
            simp only [pathOff, Option.some.injEq, Prod.mk.injEq] at g2
            obtain ⟨rfl, rfl⟩ := g2
            refine ⟨_, h, .run (.pointer (some ⟨g, j.toNat * width e, none⟩)) ?_ fun o ho w' hg => ?_⟩
            · simp only [SRel]
              refine ⟨hx.1, fun n2 e2 c2 hn2 => ?_⟩
              rw [hn'] at hn2; cases hn2
              exact ⟨h0, hlt, g, g1, rfl⟩
            · simp [execOp, ho, g3, hj, Instr.indexAt, asIntOf, run_underlying h2, h0, hlt, h4.sizeOf w', addr_add, Instr.sureAddr]
          · cases h
        · cases h
      · cases h
    · cases h
  · cases h

theorem pathOff_snoc_inv : ∀ {p : List Nat} {k : Kind} {o : Nat} {k' : Kind} {f : Nat} {o2 : Nat} {k2 : Kind}, pathOff k p = some (o, k') → pathOff k (p ++ [f]) = some (o2, k2) → ∃ b o1, k' = .struct b ∧ fieldOff b f = some (o1, k2) ∧ o2 = o + o1
  | [], k, o, k', f, o2, k2, h, h2 => by
    simp [pathOff] at h; obtain ⟨rfl, rfl⟩ := h
    simp only [List.nil_append] at h2
    cases k with
    | struct b =>
      obtain ⟨o1, k1, o3, h3, h4, rfl⟩ := pathOff_struct h2
      simp [pathOff] at h4; obtain ⟨rfl, rfl⟩ := h4
      exact ⟨b, o1, rfl, h3, by omega⟩
    | _ => simp [pathOff] at h2
  | g :: p, k, o, k', f, o2, k2, h, h2 => by
    cases k with
    | struct b =>
      obtain ⟨o1, k1, o3, h3, h4, rfl⟩ := pathOff_struct h
      obtain ⟨o5, k5, o6, h5, h6, rfl⟩ := pathOff_struct (p := p ++ [f]) h2
      rw [h3] at h5; cases h5
      obtain ⟨b', o7, h7, h8, rfl⟩ := pathOff_snoc_inv h4 h6
      exact ⟨b', o7, h7, h8, by omega⟩
    | _ => simp [pathOff] at h

theorem run_fieldOp (hT : TypesOK P cx) {o : Oper} {t : TypeId} {p : Operand} {f : Nat} (ho : o.op = .fieldAddr t p f) {b : Kind} (hk : .struct b = cx.kd t) {o1 : Nat} {k1 : Kind} (hf : fieldOff b f = some (o1, k1))
    {g off : Nat} (hp : a.eval p = .pointer (some ⟨g, off, none⟩)) (w' : World) : (execOp a.eval o).run P w' = .ok (.value (.pointer (some ⟨g, off + o1, none⟩))) w' := by
  obtain ⟨fs, h1, h2, h3⟩ := kd_struct hT hk
  obtain ⟨fl, h4, h5, h6, h7, h8⟩ := fieldsOK_get h2 hf
  have h9 : fs[f]? = some fl := by simpa using h4
  have h10 : fl.offset = o1 := by omega
  simp [execOp, ho, hp, Instr.fieldAt, run_underlying h1, h9, Instr.sureAddr, fieldPlace, h7.sizeOf w', h8, addr_add, h10]

theorem soft_fieldAddr (hT : TypesOK P cx) (hR : Rel st a m w0 O0 n) (t : TypeId) (p : Operand) (f : Nat) (h : softC cx st (.fieldAddr t p f) C = some r) :
    ∃ s, C s = some r ∧ QOp P (.fieldAddr t p f) a m s := by
  have hp := evalS_sound hR p
  simp only [softC] at h
  split at h
  · rename_i b path he
    split at h
    · rename_i k c hn
      split at h
      · rename_i o' k' hpo
        split at h
        · rename_i hk
          split at h
          · rename_i x hx2
            rw [he] at hp; simp only [SRel] at hp
            obtain ⟨o2, k2⟩ := x
            have hn' : m.nodes b = some (.var k c) := by rw [hR.nodes]; exact hn
            obtain ⟨g, o3, k3, h1, h2, h3⟩ := hp.2 k c hn'
            rw [hpo] at h2; cases h2
            obtain ⟨b', o1, rfl, h5, rfl⟩ := pathOff_snoc_inv hpo hx2
            refine ⟨_, h, .run _ ?_ fun o ho w' hg => run_fieldOp hT ho hk h5 h3 w'⟩
            simp only [SRel]
            refine ⟨hp.1, fun k2' c2 hn2 => ?_⟩
            rw [hn'] at hn2; cases hn2
            exact ⟨g, _, _, h1, (catP_eq _ _).symm ▸ hx2, rfl⟩
          · cases h
        · cases h
      · cases h
    · cases h
  · rename_i q i path he
    split at h
    · rename_i ty e l hn
      split at h
      · rename_i o' k' hpo
        split at h
        · rename_i hk
          split at h
          · rename_i x hx2
            rw [he] at hp; simp only [SRel] at hp
            obtain ⟨o2, k2⟩ := x
            have hn' : m.nodes q = some (.row ty e l) := by rw [hR.nodes]; exact hn
            obtain ⟨g0, g1, g, nn, cap, o3, k3, h1, h2, h3⟩ := hp.2 ty e l hn'
            rw [hpo] at h2; cases h2
            obtain ⟨b', o1, rfl, h5, rfl⟩ := pathOff_snoc_inv hpo hx2
            refine ⟨_, h, .run _ ?_ fun o ho w' hg => run_fieldOp hT ho hk h5 h3 w'⟩
            simp only [SRel]
            refine ⟨hp.1, fun ty2 e2 l2 hn2 => ?_⟩
            rw [hn'] at hn2; cases hn2
            exact ⟨g0, g1, g, nn, cap, _, _, h1, (catP_eq _ _).symm ▸ hx2, by rw [Nat.add_assoc]⟩
          · cases h
        · cases h
      · cases h
    · cases h
  · rename_i q e i path he
    split at h
    · rename_i ty e' ts l hn
      split at h
      · rename_i o' k' hpo
        split at h
        · rename_i hk
          split at h
          · rename_i x hx2
            rw [he] at hp; simp only [SRel] at hp
            obtain ⟨o2, k2⟩ := x
            obtain ⟨g0, g1, g, nn, cap, o3, k3, h1, h4, h2, h3⟩ := hp
            rw [hpo] at h2; cases h2
            obtain ⟨b', o1, rfl, h5, rfl⟩ := pathOff_snoc_inv hpo hx2
            refine ⟨_, h, .run _ ?_ fun o ho w' hg => run_fieldOp hT ho hk h5 h3 w'⟩
            simp only [SRel]
            exact ⟨g0, g1, g, nn, cap, _, _, h1, h4, (catP_eq _ _).symm ▸ hx2, by rw [Nat.add_assoc]⟩
          · cases h
        · cases h
      · cases h
    · cases h
  · rename_i k v he
    split at h
    · rename_i hk
      split at h
      · rename_i k' v' hv
        rw [he] at hp; simp only [SRel] at hp
        obtain ⟨b, o1, rfl, h5⟩ := proj_off hv
        unfold Reg at hp; rw [if_neg (by simp [aggB])] at hp
        obtain ⟨_, g, off, blk, ty, fr, h1, h2, h3, h4⟩ := hp
        have h1 : a.eval p = .pointer (some ⟨g, off, none⟩) := by simpa using h1
        simp only [proj] at hv
        obtain ⟨e, h6⟩ := projP_sound (by simpa [Cells] using h4) h5 hv
        have hle := fieldOff_le h5
        refine ⟨_, h, .run _ (SRel.valI ?_) fun o ho w' hg => run_fieldOp hT ho hk h5 h1 w'⟩
        unfold Reg; rw [if_neg (by simp [aggB])]
        refine ⟨rfl, g, off + o1, blk, ty, fr, rfl, h2, h3, ?_⟩
        rw [take_drop_add _ _ _ _ (width b) hle]
        simpa [width] using h6
      · cases h
    · cases h
  · cases h

theorem run_part {t : TypeId} (hT : tyOK P cx.kd t = true) (ho : oneB (cx.kd t) = true) (hi : Info P t (cx.kd t)) (cs : List Value) (o : Nat) (hl : o + width (cx.kd t) ≤ cs.length) (w' : World) :
    (part t cs.toArray o).run P w' = .ok (regOf (cx.kd t) ((cs.drop o).take (width (cx.kd t)))) w' := by
  unfold part regOf
  rw [Sem.run_bind, tyOK_agg hT w', Result.andThen_ok]
  by_cases hc : aggB (cx.kd t) = true
  · simp only [hc, if_true, Sem.run_bind, hi.sizeOf w', Result.andThen_ok, Sem.run_pure]
    congr 2
    apply Array.toList_inj.1
    simp [List.extract_eq_take_drop]
  · have h1 : width (cx.kd t) = 1 := by simpa [oneB, hc] using ho
    rw [h1] at hl
    have hlt : o < cs.length := by omega
    have h2 : (List.take 1 (List.drop o cs)).headD undef = cs[o] := by rw [List.drop_eq_getElem_cons hlt]; rfl
    simp only [hc, h1, h2]
    simp [hlt]

theorem soft_index (hT : TypesOK P cx) (hR : Rel st a m w0 O0 n) (t : TypeId) (x i : Operand) (h : softC cx st (.index t x i) C = some r) :
    ∃ s, C s = some r ∧ QOp P (.index t x i) a m s := by
  have hx := evalS_sound hR x
  have hi := evalS_sound hR i
  simp only [softC] at h
  obtain ⟨i', h1, h⟩ := onInt_some h
  have hi' := int_of hi h1
  split at h
  · rename_i s he
    split at h
    · rename_i hk
      split at h
      · rename_i h0
        split at h
        · rename_i hlt
          rw [he] at hx; simp only [SRel] at hx
          refine ⟨_, h, .run _ (SRel.int _ _) fun o ho w' hg => ?_⟩
          have hlt' : i'.toNat < ByteArray.size s := by omega
          have hb : bt s i' = ((s[i'.toNat]'hlt').toNat : Int) := by unfold bt; rw [dif_pos hlt']
          have hs : s[i'.toNat]? = some (s[i'.toNat]'hlt') := by simp [hlt']
          simp [execOp, ho, hx.str_inv, hi', Instr.index, asIntOf, run_underlying (kd_str hT hk), h0, hs, hb]
        · cases h
      · cases h
    · cases h
  · rename_i k e l he
    split at h
    · rename_i hk
      split at h
      · rename_i h0
        split at h
        · rename_i hlt
          rw [he] at hx; simp only [SRel] at hx
          obtain ⟨te, h2, h3, h4, h5, h6⟩ := kd_arr hT hk
          have hne : cx.kd te ≠ .unit := fun e1 => by rw [h3] at e1; subst e1; simp [wfB] at h6
          have hty := hT.ty te hne
          have ho1 := tyOK_oneB hty
          unfold Reg at hx; rw [if_pos (by simp [aggB])] at hx
          obtain ⟨cs, e1, hl, h7⟩ := hx
          have hl : List.length l = k := hl
          have hil : i'.toNat < List.length l := by omega
          have hc := Rows.get (Cells.len e) i'.toNat h7 hil
          have hrd : rdT e l i' = l[i'.toNat] := by simp [rdT, hil]
          rw [← hrd] at hc
          have hcl := Rows.length (Cells.len e) h7
          have hle : i'.toNat * width e + width e ≤ List.length l * width e := by
            have := Nat.mul_le_mul_right (width e) (show i'.toNat + 1 ≤ List.length l from hil)
            rw [Nat.add_mul] at this; omega
          have hrun := fun w' => run_part hty ho1 (by rw [h3]; exact h4) cs.toList (i'.toNat * width e) (by rw [h3, hcl]; exact hle) w'
          have hf := Form.of_cells hc (by rw [← h3]; simpa [oneB, Bool.or_eq_true] using ho1)
          refine ⟨_, h, .run (regOf e ((cs.toList.drop (i'.toNat * width e)).take (width e))) (SRel.valI (Reg.of hf.1 (by rw [hf.2]; exact hc))) fun o ho w' hg => ?_⟩
          have hr := hrun w'
          rw [h3] at hr
          have hr : (part te cs (i'.toNat * width e)).run P w' = .ok (regOf e ((cs.toList.drop (i'.toNat * width e)).take (width e))) w' := by simpa using hr
          simp [execOp, ho, e1, hi', Instr.index, asIntOf, run_underlying h2, h0, hlt, h4.sizeOf w', hr]
        · cases h
      · cases h
    · cases h
  · cases h

theorem SRels_off : ∀ {l : List Slot} {b : Kind} {us : List Value} {f : Nat} {x : Slot}, SRels m b l us → l[f]? = some x → ∃ o k, fieldOff b f = some (o, k)
  | [], b, us, f, x, h, hl => by simp at hl
  | y :: l, b, us, f, x, h, hl => by
    simp only [SRels] at h
    obtain ⟨u, us', rfl, h1, h2⟩ := h
    rcases h2 with ⟨b1, b2, rfl, h3, h4, h6, h5⟩ | ⟨h3, h6, rfl, rfl, h4, h7⟩
    · cases f with
      | zero => exact ⟨0, b1, rfl⟩
      | succ f =>
        obtain ⟨o, k, h⟩ := SRels_off h5 (f := f) (by simpa using hl)
        exact ⟨width b1 + o, k, by simp only [fieldOff, h]⟩
    · cases f with
      | zero => exact ⟨0, b, by cases b <;> first | exact h3.elim | exact (h6 rfl).elim | rfl⟩
      | succ f => simp at hl

theorem run_fieldVal (hT : TypesOK P cx) {o : Oper} {t : TypeId} {x : Operand} {f : Nat} (ho : o.op = .field t x f) {b : Kind} (hk : .struct b = cx.kd t) {o1 : Nat} {k1 : Kind} (hf : fieldOff b f = some (o1, k1)) {cs : List Value}
    (hx : a.eval x = .agg cs.toArray) (hl : cs.length = width b) (w' : World) : oneB k1 = true ∧ (execOp a.eval o).run P w' = .ok (.value (regOf k1 ((cs.drop o1).take (width k1)))) w' := by
  obtain ⟨fs, h1, h2, h3⟩ := kd_struct hT hk
  obtain ⟨fl, h4, h5, h6, h7, h8⟩ := fieldsOK_get h2 hf
  have h9 : fs[f]? = some fl := by simpa using h4
  have h10 : fl.offset = o1 := by omega
  have hle := fieldOff_le hf
  have h0 : cx.kd fl.type ≠ .unit := fun e => by rw [h6] at e; subst e; simp [width] at h8
  have hty := hT.ty fl.type h0
  have ho1 := tyOK_oneB hty
  have := run_part hty ho1 (by rw [h6]; exact h7) cs o1 (by rw [h6]; omega) w'
  refine ⟨by rw [← h6]; exact ho1, ?_⟩
  rw [h6] at this
  simp [execOp, ho, hx, Instr.field, run_underlying h1, h9, asAgg, h10, this]

theorem soft_field (hT : TypesOK P cx) (hR : Rel st a m w0 O0 n) (t : TypeId) (x : Operand) (f : Nat) (h : softC cx st (.field t x f) C = some r) :
    ∃ s, C s = some r ∧ QOp P (.field t x f) a m s := by
  have hx := evalS_sound hR x
  simp only [softC] at h
  split at h
  · rename_i k v he
    split at h
    · rename_i hk
      split at h
      · rename_i k' v' hv
        rw [he] at hx; simp only [SRel] at hx
        obtain ⟨b, o1, rfl, h5⟩ := proj_off hv
        unfold Reg at hx; rw [if_pos (by simp [aggB])] at hx
        obtain ⟨cs, h1, h4⟩ := hx
        simp only [proj] at hv
        obtain ⟨e, h6⟩ := projP_sound (by simpa [Cells] using h4) h5 hv
        have hl : cs.toList.length = width b := by have := h4.length; simpa [width] using this
        have h1' : a.eval x = .agg cs.toList.toArray := by simpa using h1
        have ho := (run_fieldVal hT (o := { dst := none, op := .field t x f, type := 0, pos := "", after := #[], guard := none }) rfl hk h5 h1' hl m.w).1
        have hf := Form.of_cells h6 (by simpa [oneB, Bool.or_eq_true] using ho)
        refine ⟨_, h, .run _ (SRel.valI (Reg.of hf.1 (by rw [hf.2]; exact h6))) fun o ho w' hg => (run_fieldVal hT ho hk h5 h1' hl w').2⟩
      · cases h
    · cases h
  · rename_i k l he
    split at h
    · rename_i hk
      split at h
      · rename_i s hs
        rw [he] at hx; simp only [SRel] at hx
        obtain ⟨b, us, rfl, h1, h2⟩ := hx
        obtain ⟨o1, k1, h3⟩ := SRels_off h2 hs
        obtain ⟨u, h4, h5, h6, h7⟩ := SRels_get h2 hs h3
        refine ⟨s, h, .run u h4 fun o ho w' hg => ?_⟩
        have := (run_fieldVal hT ho hk h3 h1 (SRels_len h2) w').2
        rw [h7, h5.reg] at this
        exact this
      · cases h
    · cases h
  · cases h
end
end Go.Fm
