/- The functional machine: rows built. -/
import Derived.Test.YtmbcblabfgepfaaDoorFmDs
set_option autoImplicit true
set_option linter.unusedVariables false
set_option linter.unusedSimpArgs false
set_option linter.unusedSectionVars false
namespace Go.Fm
variable [Strict]

theorem made_cells (z : Array Value) (wd len : Nat) (hz : z.size = wd) : (madeCells z (len * wd)).toList = (List.replicate len z.toList).flatten := by
  apply List.ext_getElem?
  intro j
  simp only [madeCells, Array.toList_map, Array.toList_range, List.getElem?_map]
  have hlen : z.toList.length = wd := by rw [Array.length_toList, hz]
  have key : ∀ (k : Nat) (j : Nat), ((List.replicate k z.toList).flatten)[j]? = if j < k * wd then some (z.toList.getD (j % wd) undef) else none := by
    intro k
    induction k with
    | zero => intro j; simp
    | succ k ih =>
      intro j
      rw [List.replicate_succ, List.flatten_cons, List.getElem?_append, hlen]
      by_cases hj : j < wd
      · rw [if_pos hj, if_pos (by rw [Nat.add_mul]; omega), Nat.mod_eq_of_lt hj]
        simp [hz, hj, List.getD]
      · rw [if_neg hj, ih]
        have hm' : (j - wd) % wd = j % wd := by rw [Nat.mod_eq_sub_mod (by omega : j ≥ wd)]
        rw [hm']
        by_cases hj2 : j - wd < k * wd
        · rw [if_pos hj2, if_pos (by rw [Nat.add_mul]; omega)]
        · rw [if_neg hj2, if_neg (by rw [Nat.add_mul]; omega)]
  rw [key]
  by_cases hj : j < len * wd
  · rw [if_pos hj]
    have h1 : (List.range (len * wd))[j]? = some j := by simp [hj]
    have hpos : 0 < wd := by
      rcases Nat.eq_zero_or_pos wd with h | h
      · rw [h, Nat.mul_zero] at hj; omega
      · exact h
    have h2 : j % wd < z.size := by rw [hz]; exact Nat.mod_lt _ hpos
    rw [h1]
    simp only [Option.map_some]
    rw [hz]
    simp [h2, List.getD]
  · rw [if_neg hj]
    have h1 : (List.range (len * wd))[j]? = none := by simp; omega
    rw [h1]; rfl

section
variable {P : Program} {cx : Ctx} {st st' : St} {a : Act} {m m' : Mem} {w0 : World} {O0 : OX} {n : Nat} {R : Type} {r : R} {G : World → Prop} {o : Oper} {K : St → Option R}

def SAll (m : Mem) (e : Kind) : List Slot → List Value → Prop
  | [], us => us = []
  | x :: l, us => ∃ u us', us = u :: us' ∧ SRel m x u ∧ Form e u ∧ SAll m e l us'
theorem SAll_len {e : Kind} : ∀ {l : List Slot} {us : List Value}, SAll m e l us → (catCells us).length = l.length * width e
  | [], us, h => by simp only [SAll] at h; subst h; simp [catCells]
  | x :: l, us, h => by
    obtain ⟨u, us', rfl, h1, h2, h3⟩ := h
    have h4 := SAll_len h3
    have h5 := h2.size
    simp only [catCells, List.map_cons, List.flatten_cons, List.length_append, List.length_cons, Nat.add_mul] at h4 ⊢
    rw [h4, Array.length_toList, h5]; omega
theorem SAll_rep {e : Kind} {x : Slot} {u : Value} (h1 : SRel m x u) (h2 : Form e u) : ∀ k, SAll m e (List.replicate k x) (List.replicate k u)
  | 0 => rfl
  | k + 1 => ⟨u, List.replicate k u, rfl, h1, h2, SAll_rep h1 h2 k⟩
theorem catCells_rep (u : Value) : ∀ k, catCells (List.replicate k u) = (List.replicate k u.cells.toList).flatten
  | 0 => rfl
  | k + 1 => by
    have := catCells_rep u k
    simp only [catCells, List.replicate_succ, List.map_cons, List.flatten_cons] at this ⊢
    rw [this]
theorem SAll_set {e : Kind} : ∀ {l : List Slot} {us : List Value} {i : Nat} {x : Slot} {v : Value}, SAll m e l us → i < l.length → SRel m x v → Form e v →
    ∃ us', SAll m e (l.set i x) us' ∧ catCells us' = (catCells us).take (i * width e) ++ v.cells.toList ++ (catCells us).drop (i * width e + width e)
  | [], us, i, x, v, h, hi, _, _ => by simp at hi
  | y :: l, us, 0, x, v, h, hi, hx, hv => by
    obtain ⟨u, us', rfl, h1, h2, h3⟩ := h
    refine ⟨v :: us', ⟨v, us', rfl, hx, hv, h3⟩, ?_⟩
    have h4 : u.cells.toList.length = width e := by simpa using h2.size
    simp only [catCells, List.map_cons, List.flatten_cons, Nat.zero_mul, List.take_zero, List.nil_append, Nat.zero_add]
    rw [List.drop_append, List.drop_eq_nil_of_le (by omega), h4, Nat.sub_self]; simp
  | y :: l, us, i + 1, x, v, h, hi, hx, hv => by
    obtain ⟨u, us', rfl, h1, h2, h3⟩ := h
    obtain ⟨us2, g1, g2⟩ := SAll_set h3 (i := i) (by simpa using hi) hx hv
    refine ⟨u :: us2, ⟨u, us2, rfl, h1, h2, g1⟩, ?_⟩
    have h4 : u.cells.toList.length = width e := by simpa using h2.size
    simp only [catCells, List.map_cons, List.flatten_cons] at g2 ⊢
    have e1 : List.take ((i + 1) * width e) u.cells.toList = u.cells.toList := List.take_of_length_le (by rw [h4, Nat.add_mul]; omega)
    have e2 : List.drop ((i + 1) * width e + width e) u.cells.toList = [] := List.drop_eq_nil_of_le (by rw [h4, Nat.add_mul]; omega)
    rw [g2, List.take_append, e1, List.drop_append, e2, h4]
    rw [show (i + 1) * width e - width e = i * width e by rw [Nat.add_mul]; omega, show (i + 1) * width e + width e - width e = i * width e + width e by rw [Nat.add_mul]; omega]
    simp

theorem fillS_sound {e : Kind} {len : Nat} : ∀ (ps : List (Nat × Slot)) (vs : List (Nat × Value)) (xs : List Slot) (us : List Value) (cells : Array Value), ps.length = vs.length →
      (∀ j (h : j < ps.length) (h' : j < vs.length), (vs[j]).1 = (ps[j]).1 ∧ SRel m (ps[j]).2 (vs[j]).2 ∧ fits e (ps[j]).2 = true ∧ (ps[j]).1 < len) → xs.length = len →
      SAll m e xs us → cells.toList = catCells us → ∃ us' cells', SAll m e (partsS xs ps) us' ∧ cells'.toList = catCells us' ∧ Instr.fill (fun i => some (i * width e, width e)) cells vs = some cells'
  | [], [], xs, us, cells, _, _, _, hs, hc => ⟨us, cells, hs, hc, rfl⟩
  | (i, x) :: ps, (i', v) :: vs, xs, us, cells, hl, hv, hlen, hs, hc => by
    have h0 := hv 0 (by simp) (by simp)
    simp at h0
    obtain ⟨rfl, hx, hfit, hi⟩ := h0
    have hform := fits_form hfit hx
    obtain ⟨us2, g1, g2⟩ := SAll_set hs (i := i') (by omega) hx hform
    have hsz := hform.size
    have hcs : cells.size = len * width e := by rw [← Array.length_toList, hc, SAll_len hs, hlen]
    have hmul : i' * width e + width e ≤ len * width e := by
      have := Nat.mul_le_mul_right (width e) (show i' + 1 ≤ len from hi)
      rw [Nat.add_mul] at this; omega
    have hput := foldl_put v.cells.toList (i' * width e) 0 cells (by simp [hsz]; omega)
    have hcell : (v.cells.zipIdx.foldl (fun cs (x : Value × Nat) => cs.setIfInBounds (i' * width e + x.2) x.1) cells).toList = catCells us2 := by
      rw [g2, ← Array.foldl_toList, Array.toList_zipIdx, hput, hc]
      simp [hsz]
    obtain ⟨us3, cells3, g3, g4, g5⟩ := fillS_sound ps vs (xs.set i' x) us2 _ (by simpa using hl) (fun j h h' => by have := hv (j + 1) (by simpa using h) (by simpa using h'); simpa using this) (by simpa using hlen) g1 hcell
    refine ⟨us3, cells3, g3, g4, ?_⟩
    simp only [Instr.fill]
    rw [if_neg (by simp [hsz]; omega)]
    exact g5
theorem listT_sound {nodes : Nat → Option Node} {e : Kind} {O' : Nat → Prop} : ∀ {xs : List Slot} {us : List Value} {l : List e.T}, SAll m e xs us → listT nodes e xs = some l →
    (∀ x ∈ xs, ∀ (v : e.T) (u : Value), asVal nodes 8 x e = some v → SRel m x u → Reg m.w O' e u v) → Rows (Cells m.w O' e) (catCells us) l ∧ l.length = xs.length
  | [], us, l, h, hl, _ => by
    simp only [SAll] at h; subst h
    simp [listT] at hl; subst hl
    exact ⟨rfl, rfl⟩
  | x :: xs, us, l, h, hl, hv => by
    obtain ⟨u, us', rfl, h1, h2, h3⟩ := h
    simp only [listT] at hl
    cases hx : asVal nodes 8 x e with
    | none => simp [hx] at hl
    | some v =>
      cases hr : listT nodes e xs with
      | none => simp [hx, hr] at hl
      | some vs =>
        simp [hx, hr] at hl; subst hl
        obtain ⟨h4, h5⟩ := listT_sound h3 hr fun y hy => hv y (by simp [hy])
        refine ⟨⟨u.cells.toList, catCells us', by simp [catCells], (hv x (by simp) v u hx h1).cells, h4⟩, by simp [h5]⟩

theorem fill_one {W : Nat} {v : Value} {cells : Array Value} (hv : v.cells.size = W) (hc : cells.size = W) : ∃ cells', Instr.fill (fun i => some (i * W, W)) cells [(0, v)] = some cells' ∧ cells'.toList = v.cells.toList := by
  have hput := foldl_put v.cells.toList (0 * W) 0 cells (by simp; omega)
  refine ⟨v.cells.zipIdx.foldl (fun cs (x : Value × Nat) => cs.setIfInBounds (0 * W + x.2) x.1) cells, ?_, ?_⟩
  · simp only [Instr.fill]
    rw [if_neg (by simp [hv]; omega)]
  · rw [← Array.foldl_toList, Array.toList_zipIdx, hput]
    simp
    omega
theorem hard_buildDeep (hT : TypesOK P cx) (hR : Rel st a m w0 O0 n) (hd : ∀ t, o.dst = some t → t < n ∧ O0.fx t = none) {t : TypeId} {k : Nat} {ps : Array (Nat × Operand)} (ho : o.op = .buildSlice t k ps) {ts : List Nat} (hdp : cx.dp t = some ts) (h : hardC cx st o K = some r) :
    ∃ st', K st' = some r ∧ HOpR P o a m st' w0 O0 n (fun _ => False) := by
  simp only [hardC, ho, hdp] at h
  split at h
  · rename_i e hk
    split at h
    · rename_i x hps
      cases hcond : (Nat.beq k 1 && deepB e ts && (wfB e).1 && Nat.ble (width e) 16777216) with
      | false => rw [hcond, cond_false] at h; cases h
      | true =>
        rw [hcond, cond_true] at h
        simp only [Bool.and_eq_true, Nat.beq_eq_true_eq, Nat.ble_eq] at hcond
        obtain ⟨⟨⟨hk1, hB⟩, hwf⟩, hw24⟩ := hcond
        have hk1 := Nat.eq_of_beq_eq_true hk1
        subst hk1
        split at h
        · rename_i v nd hgv
          obtain ⟨st1, h3, h4⟩ := born_some h
          obtain ⟨te, g2, g3, g4, g5, g6, g7⟩ := kd_slice hT hk.symm
          obtain ⟨i, z, g8, g9, g10, g11, g12, g13⟩ := g4.ex
          have hel := hT.elem t te e g2 hk
          have hzc := Cells_zero (w := m.w) (O := m.O) e (.inl hwf)
          obtain ⟨a', rfl, ha, _⟩ := deepB_struct hB
          have hzform : Form (.struct a') z := by
            unfold Form
            rw [if_pos (show aggB (.struct a') = true from rfl)]; obtain ⟨cs, rfl⟩ := g12 rfl
            have g11' : cs.toList = zcells (.struct a') := g11
            exact ⟨cs, rfl, by rw [← Array.length_toList, g11']; exact hzc.length, by rw [g11']; exact hzc.one⟩
          have hx := evalS_sound hR x
          cases hxs : evalS st x <;> rw [hxs] at hgv <;> simp only [giveE] at hgv <;> (try (cases hgv; done))
          rename_i k' xs'
          split at hgv
          · rename_i hk'
            subst hk'
            rw [hxs] at hx
            have hx0 := hx
            simp only [SRel] at hx
            obtain ⟨a2, regs, e1, hval, hsr⟩ := hx
            cases e1
            obtain ⟨us, G⟩ := giveP_sound hR.ok.node hR.ok.inj (fun q' y hq => by rw [hR.nodes]; exact hq) ha hsr hgv
            have hvform : Form (.struct a') (a.eval x) := fits_form (x := .agg (.struct a') xs') (by simp [fits]) hx0
            obtain ⟨cells, f3, f2⟩ := fill_one (W := width (.struct a')) (v := a.eval x) (cells := madeCells z.cells (1 * width (.struct a'))) hvform.size (by rw [size_madeCells, Nat.one_mul])
            have hcr : cells.toList = catCells regs := by rw [f2, hval]; simp [Value.cells]
            have hlenr : (catCells regs).length = width (.struct a') := DS.length (k := a') G.ds
            have hcsz : cells.size = width (.struct a') := by rw [← Array.length_toList, hcr, hlenr]
            obtain ⟨hm1, hm2, hm3, hm4⟩ := make_some h3
            have hNu : m.used (fresh st.gen o.dst 0) = false := by rw [hR.used]; exact hm1
            have hg := Grow.alloc m.w (.cells cells te)
            have hrel : ∀ (w' : World) (O' : Nat → Prop), (∀ b, b < m.w.heap.size → w'.heap[b]? = m.w.heap[b]?) → w'.heap[m.w.heap.size]? = some (.cells cells te (0, 0)) → DeepR w' O' (cx.elem t) (.struct a') ts (mkLoc (.slice (some ⟨m.w.heap.size, 0, none⟩) 1 1) [us]) [v] (fun _ _ => False) := fun w' O' hold hnew => by
              have hlt : ∀ (j : Nat) (u : Value) (b : Nat), us[j]? = some u → blkOf u = some b → b < m.w.heap.size := fun j u b k2 k3 => by
                obtain ⟨q2, ty2, e2, l2, k5, k6, k7⟩ := G.blk j u b k2 k3
                exact (hR.ok.node q2 _ (by rw [hR.nodes]; exact k5)).blk_lt k6
              refine DeepR.flat_any (w := w') (O := m.O) ⟨.slice (some ⟨m.w.heap.size, 0, none⟩) 1 1, cells.toList, [(v, us)], rfl, hB, rfl, ?_, ?_, ?_, ?_⟩
              · refine ⟨by simp [hcsz], .inr ⟨m.w.heap.size, 1, cells, rfl, by omega, by rw [hel]; exact hnew, by simp, by simp [maxLen], by omega, ?_⟩⟩
                rw [List.take_of_length_le (by simp [hcsz])]
              · rw [hcr]
                exact Rows.one (DE.flat_any hB (show DE m.w m.O (.struct a') _ (v, us) from G.ds))
              · intro ii jj p u q ty e1 e2 e3 e4 _
                cases ii with
                | succ ii => simp at e1
                | zero =>
                  simp only [List.getElem?_cons_zero, Option.some.injEq] at e1
                  subst e1
                  obtain ⟨xs2, k1, k2⟩ := G.part jj u q ty e2 e3 e4
                  refine ⟨xs2, ownsRow_same k1 fun b hb => hold b (hlt jj u b e2 ?_), k2.imp fun c x hc => hc.flat_any' (parts_flat ha q (List.mem_of_getElem? e3))⟩
                  obtain ⟨A, c, hA⟩ := ownsRow_slice k1
                  rw [hA] at hb ⊢; exact hb
              · constructor
                · intro ii jj us' u b k1 k2 k3 k4
                  cases ii with
                  | succ ii => simp at k1
                  | zero =>
                    simp at k1; subst k1
                    simp [blkOf] at k3
                    have := hlt jj u b k2 k4
                    omega
                · intro ii jj ii' jj' us1 us2 u u' b k1 k2 k3 k4 k5 k6
                  cases ii with
                  | succ ii => simp at k1
                  | zero =>
                    cases ii' with
                    | succ ii => simp at k3
                    | zero =>
                      simp at k1 k3; subst k1; subst k3
                      exact ⟨rfl, G.inj jj jj' u u' b k2 k4 k5 k6⟩
            let m1 : Mem := ⟨m.w.alloc (.cells cells te), upd nd (fresh st.gen o.dst 0) (some (.deep (cx.elem t) (.struct a') ts [v])), upd m.used (fresh st.gen o.dst 0) true, upd m.loc (fresh st.gen o.dst 0) (mkLoc (.slice (some ⟨m.w.heap.size, 0, none⟩) 1 1) [us]), m.X⟩
            have hbl : ∀ b, Blk (mkLoc (.slice (some ⟨m.w.heap.size, 0, none⟩) 1 1) [us]) b → (∃ (j : Nat) (u : Value), us[j]? = some u ∧ blkOf u = some b) ∨ m.w.heap.size ≤ b := fun b hb => by
              rcases (Blk_mk (by simp)).1 hb with hb | ⟨us', hus', u, hu, hb⟩
              · simp [blkOf] at hb; omega
              · rw [List.mem_singleton.1 hus'] at hu
                obtain ⟨j, hj⟩ := List.mem_iff_getElem?.1 hu
                exact .inl ⟨j, u, hj, hb⟩
            have hsub : ∀ q' y, nd q' = some y → m.nodes q' = some y := fun q' y hy => by rw [hR.nodes]; exact G.sub q' y hy
            have hgone : ∀ q' y, nd q' = some y → ∀ b, Blk (m.loc q') b → ¬ ∃ (j : Nat) (u : Value), us[j]? = some u ∧ blkOf u = some b := by
              rintro q' y hy b hb ⟨j, u, k4, k5⟩
              obtain ⟨q2, ty2, e2, l2, k6, k7, k8⟩ := G.blk j u b k4 k5
              have := hR.ok.inj q' q2 _ _ b (hsub q' y hy) (by rw [hR.nodes]; exact k6) hb k7
              subst this
              rw [k8] at hy; cases hy
            have hTn : Turn m m1 (fun b => ∃ (j : Nat) (u : Value), us[j]? = some u ∧ blkOf u = some b) := {
              X := rfl
              free := by
                rintro b ⟨j, u, k2, k3⟩
                obtain ⟨q2, ty2, e2, l2, k5, k6, k7⟩ := G.blk j u b k2 k3
                exact ⟨q2, _, by rw [hR.nodes]; exact k5, k6⟩
              frame := ⟨hg.os, hg.tape, hg.output, hg.size, fun b hb _ => hg.block b hb⟩
              used := fun q' hq' => by
                by_cases hqN' : q' = fresh st.gen o.dst 0
                · subst hqN'; simp [m1, upd_same]
                · simpa [m1, upd_other _ _ hqN'] using hq'
              loc := fun q' hq' => by
                have hqN' : q' ≠ fresh st.gen o.dst 0 := fun e => by subst e; rw [hNu] at hq'; cases hq'
                simp [m1, upd_other _ _ hqN']
              old := fun q' y hq' hy => by
                have hqN' : q' ≠ fresh st.gen o.dst 0 := fun e => by subst e; rw [hNu] at hq'; cases hq'
                simp only [m1, upd_other _ _ hqN'] at hy
                exact ⟨hsub q' y hy, fun b hb => hgone q' y hy b hb⟩
              blk := fun q' y hq' hy b hb => by
                by_cases hqN' : q' = fresh st.gen o.dst 0
                · subst hqN'
                  simp only [m1, upd_same] at hb
                  exact hbl b hb
                · simp only [m1, upd_other _ _ hqN'] at hy
                  have := hR.ok.used q' y (hsub q' y hy)
                  rw [hq'] at this; cases this }
            have honly : ∀ q' y, m.used q' = false → m1.nodes q' = some y → q' = fresh st.gen o.dst 0 ∧ y = .deep (cx.elem t) (.struct a') ts [v] := fun q' y hq' hy => by
              by_cases hqN' : q' = fresh st.gen o.dst 0
              · subst hqN'
                simp only [m1, upd_same, Option.some.injEq] at hy
                exact ⟨rfl, hy.symm⟩
              · simp only [m1, upd_other _ _ hqN'] at hy
                have := hR.ok.used q' y (hsub q' y hy)
                rw [hq'] at this; cases this
            have hR1 : Rel st1 a m1 w0 O0 n := hTn.rel hR (by rw [hm4]) (by rw [hm2]) (by rw [hm3]; simp only [m1, hR.used]) (fun q' y hq' hy => by
                obtain ⟨rfl, rfl⟩ := honly q' y hq' hy
                refine ⟨by simp [m1, upd_same], ?_⟩
                show DeepR m1.w m1.O _ _ _ (m1.loc (fresh st.gen o.dst 0)) _ _
                rw [show m1.loc (fresh st.gen o.dst 0) = mkLoc (.slice (some ⟨m.w.heap.size, 0, none⟩) 1 1) [us] by simp [m1, upd_same]]
                exact hrel _ _ hg.block (heap_alloc_new m.w _)) (fun q1 q2 y1 y2 b hu1 hu2 hy1 hy2 _ _ => by rw [(honly q1 y1 hu1 hy1).1, (honly q2 y2 hu2 hy2).1])
            have hslot : SRel m1 (.droot (fresh st.gen o.dst 0)) (.slice (some ⟨m.w.heap.size, 0, none⟩) 1 1) := by simp [SRel, m1, upd_same, hdr_mk]
            refine ⟨_, h4, .value (w' := m.w.alloc (.cells cells te)) ?_ rfl (hR1.put o.dst hd hslot) hg.none ?_⟩
            rotate_left
            · rintro b ⟨q', y, hy, hy', hb⟩
              by_cases hqN' : q' = fresh st.gen o.dst 0
              · subst hqN'
                simp only [m1, upd_same] at hb
                rcases hbl b hb with ⟨j, u, k2, k3⟩ | h
                · obtain ⟨q2, ty2, e2, l2, k5, k6, k7⟩ := G.blk j u b k2 k3
                  exact .inl ⟨q2, _, by rw [hR.nodes]; exact k5, rfl, k6⟩
                · exact .inr h
              · simp only [m1, upd_other _ _ hqN'] at hy hb
                exact .inl ⟨q', y, hsub q' y hy, hy', hb⟩
            have hpsl : (Array.map (fun (x : Nat × Operand) => (x.1, a.eval x.2)) ps).toList = [(0, a.eval x)] := by simp [hps]
            have hz0 : ¬ 1 * width (.struct a') = 0 := by omega
            have hnot : ¬ (2 ^ 24 < 1 * width (.struct a')) := by omega
            have hzero : (zeroValue te).run P m.w = .ok z m.w := by simp [zeroValue, typeInfo, g8, g10]
            simp only [execOp, ho, Instr.buildSlice, Sem.run_bind, run_underlying g2, Result.andThen_ok, g4.sizeOf m.w, hpsl]
            rw [if_neg (by simpa using hnot), if_neg hz0]
            simp only [Sem.run_bind, hzero, Sem.run_pure, Result.andThen_ok]
            rw [show (Array.range (1 * width (.struct a'))).map (z.cells[· % z.cells.size]!) = madeCells z.cells (1 * width (.struct a')) from rfl, f3]
            simp [newRow]
          · cases hgv
        · cases h
    · rename_i hps
      cases hcond : (Nat.beq k 0 && deepB e ts) with
      | false => rw [hcond, cond_false] at h; cases h
      | true =>
        rw [hcond, cond_true] at h
        simp only [Bool.and_eq_true] at hcond
        obtain ⟨hk1, hB⟩ := hcond
        have hk1 := Nat.eq_of_beq_eq_true hk1
        subst hk1
        obtain ⟨st1, h3, h4⟩ := born_some h
        obtain ⟨te, g2, g3, g4, g5, g6, g7⟩ := kd_slice hT hk.symm
        have hel := hT.elem t te e g2 hk
        have hg := Grow.alloc m.w (.cells #[] te)
        have hv : ∀ b, Blk (mkLoc (.slice (some ⟨m.w.heap.size, 0, none⟩) 0 0) []) b → m.w.heap.size ≤ b := fun b hb => by
          rcases (Blk_mk (by simp)).1 hb with hb | ⟨us, hus, _⟩
          · simp [blkOf] at hb; omega
          · cases hus
        have hn : NodeRel (m.add (m.w.alloc (.cells #[] te)) (fresh st.gen o.dst 0) (.deep (cx.elem t) e ts []) (mkLoc (.slice (some ⟨m.w.heap.size, 0, none⟩) 0 0) [])) (fresh st.gen o.dst 0) (.deep (cx.elem t) e ts []) := by
          simp only [NodeRel, Mem.add, upd_same]
          refine ⟨.slice (some ⟨m.w.heap.size, 0, none⟩) 0 0, [], [], rfl, hB, rfl, ?_, rfl, fun _ _ _ _ _ _ h => by simp at h, ⟨fun _ _ _ _ _ h => by simp at h, fun _ _ _ _ _ _ _ _ _ h => by simp at h⟩⟩
          refine ⟨by simp, .inr ⟨m.w.heap.size, 0, #[], rfl, by omega, by rw [hel]; exact heap_alloc_new m.w _, by simp, by simp [maxLen], by simp, by simp⟩⟩
        have hR1 := hR.add h3 hg hv hn
        have hslot : SRel (m.add (m.w.alloc (.cells #[] te)) (fresh st.gen o.dst 0) (.deep (cx.elem t) e ts []) (mkLoc (.slice (some ⟨m.w.heap.size, 0, none⟩) 0 0) [])) (.droot (fresh st.gen o.dst 0)) (.slice (some ⟨m.w.heap.size, 0, none⟩) 0 0) := by simp [SRel, Mem.add, upd_same, hdr_mk]
        refine ⟨_, h4, .value (w' := m.w.alloc (.cells #[] te)) ?_ rfl (hR1.put o.dst hd hslot) hg.none ?_⟩
        rotate_left
        · rintro b ⟨q, x', hq, hx', hb⟩
          by_cases hqi : q = fresh st.gen o.dst 0
          · subst hqi
            simp only [Mem.add, upd_same] at hb
            exact .inr (hv b hb)
          · simp only [Mem.add, upd_other _ _ hqi] at hq hb
            exact .inl ⟨q, x', hq, hx', hb⟩
        have hpsl : (Array.map (fun (x : Nat × Operand) => (x.1, a.eval x.2)) ps).toList = [] := by simp [hps]
        simp only [execOp, ho, Instr.buildSlice, Sem.run_bind, run_underlying g2, Result.andThen_ok, g4.sizeOf m.w, hpsl]
        have hr0 : (Array.range 0 : Array Nat) = #[] := by apply Array.toList_inj.1; simp
        simp [Instr.fill, newRow, hr0]
    · cases h
  · cases h
theorem hard_buildSlice (hT : TypesOK P cx) (hR : Rel st a m w0 O0 n) (hd : ∀ t, o.dst = some t → t < n ∧ O0.fx t = none) {t : TypeId} {k : Nat} {ps : Array (Nat × Operand)} (ho : o.op = .buildSlice t k ps) (h : hardC cx st o K = some r) :
    ∃ st', K st' = some r ∧ HOpR P o a m st' w0 O0 n (fun _ => False) := by
  cases hdp : cx.dp t with
  | some ts => exact hard_buildDeep hT hR hd ho hdp h
  | none =>
  simp only [hardC, ho, hdp] at h
  split at h
  · rename_i e hk
    split at h
    · rename_i hcond
      simp only [Bool.and_eq_true, List.all_eq_true, Nat.ble_eq, Nat.succ_le_iff] at hcond
      obtain ⟨⟨hwf, hsize⟩, hall⟩ := hcond
      have hsize : k * width e ≤ 16777216 := hsize
      obtain ⟨l, nd, h1, h2, h⟩ := laid_some h
      obtain ⟨st1, h3, h4⟩ := born_some h
      obtain ⟨te, g2, g3, g4, g5, g6, g7⟩ := kd_slice hT hk.symm
      obtain ⟨i, z, g8, g9, g10, g11, g12, g13⟩ := g4.ex
      have hel := hT.elem t te e g2 hk
      have hzc := Cells_zero (w := m.w) (O := m.O) e (.inl hwf)
      have hzform : Form e z := by
        unfold Form
        by_cases hc : aggB e = true
        · rw [if_pos hc]; obtain ⟨cs, rfl⟩ := g12 hc
          have g11' : cs.toList = zcells e := g11
          exact ⟨cs, rfl, by rw [← Array.length_toList, g11']; exact hzc.length, by rw [g11']; exact hzc.one⟩
        · rw [if_neg hc]; exact ⟨g13 (by simpa using hc), (wf_one hwf).resolve_left hc⟩
      have hzrel : SRel m (.val e (zeroT e)) z := SRel.valI (Reg.of hzform (by rw [g11]; exact hzc))
      obtain ⟨us, cells, f1, f2, f3⟩ := fillS_sound (m := m) (e := e) (len := k) (ps.toList.map fun q => (q.1, evalS st q.2)) (ps.toList.map fun q => (q.1, a.eval q.2)) (List.replicate k (.val e (zeroT e))) (List.replicate k z)
        (madeCells z.cells (k * width e)) (by simp) (fun j hj hj' => by
          simp at hj
          have := hall (ps.toList[j]) (by simp)
          simp only [List.getElem_map]
          exact ⟨by simp, by simpa using evalS_sound hR _, by simpa using this.2, by simpa using this.1⟩) (by simp) (SAll_rep hzrel hzform k)
        (by rw [made_cells z.cells (width e) k hzform.size, catCells_rep])
      obtain ⟨f4, f5⟩ := listT_sound (O' := (m.cut nd).O) f1 h1 fun x hx v u hv hs => laid_reg hR h2 hv hs fun q hq => List.mem_flatMap.2 ⟨x, hx, hq⟩
      have hlen : l.length = k := by
        rw [f5]
        have : ∀ (ps : List (Nat × Slot)) (xs : List Slot), (partsS xs ps).length = xs.length := by
          intro ps
          induction ps with
          | nil => intro xs; rfl
          | cons p ps ih => intro xs; obtain ⟨i, x⟩ := p; simp only [partsS, ih]; simp
        rw [this]; simp
      have hR1 := hR.cut (kills_some h2).1
      have hcsz : cells.size = k * width e := by
        rw [← Array.length_toList, f2, f4.length (Cells.len e), hlen]
      have hg := Grow.alloc (m.cut nd).w (.cells cells te)
      have hv : ∀ b, Blk (.slice (some ⟨m.w.heap.size, 0, none⟩) k k) b → (m.cut nd).w.heap.size ≤ b := fun b hb => by simp [Blk, blkOf] at hb; subst hb; exact Nat.le_refl _
      have hle := add_le (m := m.cut nd) (i := fresh st.gen o.dst 0) (nd := .row (cx.elem t) e l) (by rw [hR1.used]; exact (make_some h3).1) hR1.ok hg hv
      have hn : NodeRel ((m.cut nd).add ((m.cut nd).w.alloc (.cells cells te)) (fresh st.gen o.dst 0) (.row (cx.elem t) e l) (.slice (some ⟨m.w.heap.size, 0, none⟩) k k)) (fresh st.gen o.dst 0) (.row (cx.elem t) e l) := by
        refine ⟨cells.toList, ?_, by rw [f2]; exact f4.imp fun c x hc => Cells.keep hle.keep (w := (m.cut nd).w) hc⟩
        simp only [Mem.add, upd_same]
        refine ⟨by simp [hcsz, hlen], .inr ⟨m.w.heap.size, k, cells, by rw [hlen], by omega, by rw [hel]; exact heap_alloc_new m.w _, by omega, ?_, hcsz, ?_⟩⟩
        · have : k * 1 ≤ k * width e := Nat.mul_le_mul_left _ (by omega)
          simp [maxLen]; omega
        · rw [List.take_of_length_le (by simp [hcsz, hlen])]
      have hR2 := hR1.add h3 hg hv hn
      refine ⟨_, h4, .value (w' := m.w.alloc (.cells cells te)) ?_ rfl (hR2.put o.dst hd row_slot) hg.none ?_⟩
      rotate_left
      · rintro b ⟨q, x', hq, hx', hb⟩
        by_cases hqi : q = fresh st.gen o.dst 0
        · subst hqi
          simp only [Mem.add, upd_same] at hb
          exact .inr (hv b hb)
        · simp only [Mem.add, upd_other _ _ hqi] at hq hb
          exact .inl ⟨q, x', by rw [hR.nodes]; exact (kills_some h2).1 q _ hq, hx', hb⟩
      have hps : (Array.map (fun (x : Nat × Operand) => (x.1, a.eval x.2)) ps).toList = ps.toList.map fun q => (q.1, a.eval q.2) := by simp
      have hnot : ¬ (2 ^ 24 < k * width e) := by omega
      by_cases hz : k * width e = 0
      · have hmade : madeCells z.cells (k * width e) = (Array.range (k * width e)).map ((#[] : Array Value)[· % (#[] : Array Value).size]!) := by rw [hz]; simp [madeCells]
        rw [hmade] at f3
        simp only [execOp, ho, Instr.buildSlice, Sem.run_bind, run_underlying g2, Result.andThen_ok, g4.sizeOf m.w, hps]
        rw [if_neg (by simpa using hnot), if_pos hz]
        simp only [Sem.run_bind, Sem.run_pure, Result.andThen_ok]
        rw [f3]
        simp [newRow]
      · have hzero : (zeroValue te).run P m.w = .ok z m.w := by simp [zeroValue, typeInfo, g8, g10]
        simp only [execOp, ho, Instr.buildSlice, Sem.run_bind, run_underlying g2, Result.andThen_ok, g4.sizeOf m.w, hps]
        rw [if_neg (by simpa using hnot), if_neg hz]
        simp only [Sem.run_bind, hzero, Sem.run_pure, Result.andThen_ok]
        rw [show (Array.range (k * width e)).map (z.cells[· % z.cells.size]!) = madeCells z.cells (k * width e) from rfl, f3]
        simp [newRow]
    · cases h
  · cases h
end
end Go.Fm
