/- The functional machine: stores, rows, appends. -/
import Derived.Test.YtecddhkfhkpeaaaDoorFmO
set_option autoImplicit true
set_option linter.unusedVariables false
set_option linter.unusedSimpArgs false
set_option linter.unusedSectionVars false
namespace Go.Fm
variable [Strict]

section
variable {P : Program} {cx : Ctx} {st st' : St} {a : Act} {m m' : Mem} {w0 : World} {O0 : OX} {n : Nat} {R : Type} {r : R} {G : World → Prop} {o : Oper} {K : St → Option R}

theorem HOp.skipd {w w' : World} (h : (execOp a.eval o).run P w = .ok .skip w') {m' : Mem} (hw : m'.w = w') (hR : Rel st' (a.put o.dst undef) m' w0 O0 n) : HOp P o a w st' w0 O0 n := by
  intro next Q hn
  unfold Oper.wp
  rw [h]
  have := hn _ _ hR
  rw [hw] at this
  exact this
theorem SRel.dead (m : Mem) (u : Value) : SRel m .dead u := by simp [SRel]
theorem Form.kind {k : Kind} {u : Value} (h : Form k u) : aggB k = true ∨ width k = 1 := by
  unfold Form at h
  by_cases hc : aggB k = true
  · exact .inl hc
  · rw [if_neg hc] at h; exact .inr h.2

theorem hard_store_box (hT : TypesOK P cx) (hR : Rel st a m w0 O0 n) (hd : ∀ t, o.dst = some t → t < n ∧ O0.fx t = none) {t : TypeId} {p x : Operand} (ho : o.op = .store t p x) {b : Nat} {path : List Nat} (hev : evalS st p = .box b path)
    (h : hardC cx st o K = some r) : ∃ st', K st' = some r ∧ HOp P o a m.w st' w0 O0 n := by
  simp only [hardC, ho] at h
  cases hpl : plain (cx.kd t) with
  | false => simp [hpl] at h
  | true =>
  simp only [hpl, cond_true, hev] at h
  split at h
  · rename_i k c hn
    split at h
    · rename_i o1 k' hpo
      split at h
      · rename_i hk
        split at h
        · rename_i c' hset
          have hp := evalS_sound hR p
          rw [hev] at hp; simp only [SRel] at hp
          have hn' : m.nodes b = some (.var k c) := by rw [hR.nodes]; exact hn
          obtain ⟨g, o2, k2, h1, h2, h3⟩ := hp.2 k c hn'
          rw [hpo] at h2; cases h2
          obtain ⟨g', blk, ty, u, h4, h5, h6, h7, h8, h9⟩ := hR.ok.node b _ hn'
          rw [h1] at h4; simp at h4; subst h4
          have hx := evalS_sound hR x
          obtain ⟨g1, g2, u', g3, g4, g5⟩ := setP_sound h7 h8 h9 hx hpo h7.kind hset
          have hle := pathOff_le hpo
          have hsz := h7.size
          rw [h6] at hsz
          have hrun := run_storeVar (P := P) (t := t) (plain_of hT hpl).2.2 h5 o1 (by rw [← hk]; omega) (u := a.eval x) (by rw [← hk]; exact g1.size) g1.ones
          have hcs : (blk.toList.take o1 ++ (a.eval x).cells.toList ++ blk.toList.drop (o1 + width (cx.kd t))).toArray = u'.cells := by
            apply Array.toList_inj.1; rw [g4, ← h6, ← hk]
          rw [hcs] at hrun
          have hle2 := set_le (nd' := .var k c') hn' (show k = k from rfl) (g := g) (by rw [h1]; rfl) u'.cells
          have hR1 := hR.set hn (nd' := .var k c') (show k = k from rfl) (g := g) (by rw [h1]; rfl) u'.cells
            ⟨g, u'.cells, ty, u', by simp [Mem.set, h1], setRow_heap m.w g blk _ ty (0, 0) h5, rfl, g3, g2, SRel.mono hle2 c' g5⟩
          exact ⟨_, h, .skipd (run_storeOp ho h3 hrun) rfl (hR1.put o.dst hd (SRel.dead _ _))⟩
        · cases h
      · cases h
    · cases h
  · cases h

theorem take_splice {α : Type} (l m : List α) (p k N : Nat) (hm : m.length = k) (h : p + k ≤ N) (hl : N ≤ l.length) : (l.take p ++ m ++ l.drop (p + k)).take N = (l.take N).take p ++ m ++ (l.take N).drop (p + k) := by
  rw [List.take_append, List.take_of_length_le (l := l.take p ++ m) (by simp; omega), List.take_take, Nat.min_eq_left (by omega), List.drop_take]
  congr 2
  simp [hm]; omega

theorem laid_some {α : Type} {xs : List Slot} {told : (Nat → Option Node) → Option α} {C : α → St → Option R} (h : laid st xs told C = some r) :
    ∃ v nd, told st.nodes = some v ∧ kills st.nodes (xs.flatMap (roots 8)) = some nd ∧ C v { st with nodes := nd } = some r := by
  unfold laid at h
  split at h
  · rename_i v hv
    split at h
    · rename_i nd hnd; exact ⟨v, nd, hv, hnd, h⟩
    · cases h
  · cases h
theorem kills_was : ∀ {l : List Nat} {nodes nd : Nat → Option Node}, kills nodes l = some nd → ∀ q ∈ l, ∃ x, nodes q = some x
  | [], nodes, nd, h => by simp
  | r :: l, nodes, nd, h => by
    simp only [kills] at h
    have h' : ∃ x, nodes r = some x ∧ kills (upd nodes r none) l = some nd := by
      split at h
      · rename_i hr; exact ⟨_, hr, h⟩
      · rename_i hr; exact ⟨_, hr, h⟩
      · cases h
    obtain ⟨x0, hr, h⟩ := h'
    intro q hq
    rcases List.mem_cons.1 hq with rfl | hq
    · exact ⟨_, hr⟩
    · obtain ⟨x, hx⟩ := kills_was h q hq
      by_cases hqr : q = r
      · subst hqr; exact ⟨_, hr⟩
      · exact ⟨x, by simpa [upd_other _ _ hqr] using hx⟩
/-- what was laid: its rows are no one's -/
theorem laid_reg (hR : Rel st a m w0 O0 n) {nd : Nat → Option Node} {l : List Nat} (hk : kills st.nodes l = some nd) {x : Slot} {k : Kind} {v : k.T} {u : Value} (hv : asVal st.nodes 8 x k = some v) (hs : SRel m x u) (hx : ∀ q ∈ roots 8 x, q ∈ l) :
    Reg m.w (m.cut nd).O k u v := by
  obtain ⟨h1, h2⟩ := kills_some hk
  have hsub : ∀ q x, nd q = some x → m.nodes q = some x := fun q x h => by rw [hR.nodes]; exact h1 q x h
  refine asVal_sound (m := m) (nodes := st.nodes) (fun q x h => by rw [hR.nodes]; exact h) hR.ok.node (fun b h => h.imp (fun ⟨q, x, h3, h4⟩ => ⟨q, x, hsub q x h3, h4⟩) id) 8 x k v u hv hs ?_
  rintro q hq b hb (⟨q', x', h3, h4⟩ | hX)
  rotate_left
  · obtain ⟨x0, h5⟩ := kills_was hk q (hx q hq)
    exact hR.ok.apart ⟨q, x0, by rw [hR.nodes]; exact h5, hb⟩ hX
  obtain ⟨x0, h5⟩ := kills_was hk q (hx q hq)
  have : q' = q := hR.ok.inj q' q x' x0 b (hsub q' x' h3) (by rw [hR.nodes]; exact h5) h4 hb
  subst this
  have h6 := h2 q' (hx q' hq)
  simp only [Mem.cut] at h3
  rw [h6] at h3; cases h3

theorem hard_store_elem (hT : TypesOK P cx) (hR : Rel st a m w0 O0 n) (hd : ∀ t, o.dst = some t → t < n ∧ O0.fx t = none) {t : TypeId} {p x : Operand} (ho : o.op = .store t p x) {q : Nat} {i : Int} {path : List Nat} (hev : evalS st p = .elem q i path)
    (h : hardC cx st o K = some r) : ∃ st', K st' = some r ∧ HOp P o a m.w st' w0 O0 n := by
  simp only [hardC, ho] at h
  cases hpl : plain (cx.kd t) with
  | false => simp [hpl] at h
  | true =>
  simp only [hpl, cond_true, hev] at h
  obtain ⟨y, nd, h1, h2, h⟩ := laid_some h
  have hx := evalS_sound hR x
  have hreg := laid_reg hR h2 h1 hx (fun q hq => by simpa using hq)
  have hR1 := hR.cut (kills_some h2).1
  have hp := evalS_sound hR1 p
  rw [show evalS { st with nodes := nd } p = evalS st p from by cases p <;> rfl, hev] at hp
  simp only [SRel] at hp
  simp only at h
  split at h
  · rename_i ty e l hn
    split at h
    · rename_i z hz
      rw [setAt_eq hz] at h
      obtain ⟨g0, g1, g, nn, cap, o1, k1, h3, h4, h5⟩ := hp.2 ty e l hn
      obtain ⟨xs, h6, h7⟩ := row_loc hR1 hn
      rcases h6.2 with ⟨h8, _⟩ | ⟨g', cap', cur, h8, _, h9, h10, h11, h12, h13⟩
      · rw [h3] at h8; simp at h8
      · rw [h3] at h8; simp at h8; obtain ⟨rfl, rfl, rfl⟩ := h8
        have hil : i.toNat < l.length := by omega
        have hrd : rdT e l i = l[i.toNat] := by simp [rdT, hil]
        have hc := Rows.get (Cells.len e) i.toNat h7 hil
        rw [← hrd] at hc
        obtain ⟨e2, h14⟩ := upds_sound hc h4 hz hreg.cells
        dsimp only at e2
        subst e2
        have hle := pathOff_le h4
        have hxl : xs.length = l.length * width e := h6.1
        have hil2 : i.toNat * width e + width e ≤ l.length * width e := by
          have := Nat.mul_le_mul_right (width e) (show i.toNat + 1 ≤ l.length from hil)
          rw [Nat.add_mul] at this; omega
        have hcap : l.length * width e ≤ cap * width e := Nat.mul_le_mul_right _ h10
        have hset := Rows.set (Cells.len e) i.toNat h7 hil h14
        rw [show (i.toNat + 1) * width e = i.toNat * width e + width e by rw [Nat.add_mul]; omega, splice_splice xs _ _ _ _ _ hle (by omega)] at hset
        have hf := hreg.form
        have hus : (a.eval x).cells.toList.length = width (cx.kd t) := by simpa using hf.size
        have hrun := run_storeVar (P := P) (t := t) (plain_of hT hpl).2.2 h9 (i.toNat * width e + o1) (by rw [h12]; omega) hf.size hf.ones
        have hnode : NodeRel ((m.cut nd).set ((m.cut nd).w.setRow g (cur.toList.take (i.toNat * width e + o1) ++ (a.eval x).cells.toList ++ cur.toList.drop (i.toNat * width e + o1 + width (cx.kd t))).toArray) q (.row ty e (l.set i.toNat z))) q (.row ty e (l.set i.toNat z)) := by
          have hn' : (m.cut nd).nodes q = some (.row ty e l) := hn
          have hle2 := set_le hn' (show shape (.row ty e l) (.row ty e (l.set i.toNat z)) from ⟨rfl, rfl, by simp⟩) (g := g) (by rw [h3]; rfl) (cur.toList.take (i.toNat * width e + o1) ++ (a.eval x).cells.toList ++ cur.toList.drop (i.toNat * width e + o1 + width (cx.kd t))).toArray
          refine ⟨_, ?_, hset.imp fun c x hc => hc.keep hle2.keep⟩
          refine ⟨by simp only [List.length_append, List.length_take, List.length_drop, hus, List.length_set, hxl]; omega, .inr ⟨g, cap, _, by simp [Mem.set, h3], by simp, setRow_heap m.w g cur _ ty (0, 0) h9, by simpa using h10, h11, by simp [hus, h12]; omega, ?_⟩⟩
          simp only [List.length_set]
          rw [take_splice cur.toList (a.eval x).cells.toList (i.toNat * width e + o1) (width (cx.kd t)) (l.length * width e) hus (by omega) (by simp [h12]; omega), h13, Nat.add_assoc]
        have hR2 := hR1.set (nd' := .row ty e (l.set i.toNat z)) hn ⟨rfl, rfl, by simp⟩ (g := g) (by rw [h3]; rfl) _ hnode
        exact ⟨_, h, .skipd (run_storeOp ho h5 hrun) rfl (hR2.put o.dst hd (SRel.dead _ _))⟩
    · cases h
  · cases h
theorem hard_store_cell (hT : TypesOK P cx) (hR : Rel st a m w0 O0 n) (hd : ∀ t, o.dst = some t → t < n ∧ O0.fx t = none) {t : TypeId} {p x : Operand} (ho : o.op = .store t p x) {b : Nat} {i : Int} (hev : evalS st p = .cell b i)
    (h : hardC cx st o K = some r) : ∃ st', K st' = some r ∧ HOp P o a m.w st' w0 O0 n := by
  simp only [hardC, ho] at h
  cases hpl : plain (cx.kd t) with
  | false => simp [hpl] at h
  | true =>
  simp only [hpl, cond_true, hev] at h
  split at h
  · rename_i k e c hn
    split at h
    · rename_i l y hl hy
      split at h
      · rename_i hk
        have hp := evalS_sound hR p
        rw [hev] at hp
        obtain ⟨g0, g1, g2, g, blk, ty, g3, g4, g5, g6, g7, g8⟩ := arr_cells hR hn hl hp
        have hreg := justVal_form hy (evalS_sound hR x)
        have hf := hreg.form
        have hus : (a.eval x).cells.toList.length = width e := by simpa using hf.size
        have hrun := run_storeVar (P := P) (t := t) (plain_of hT hpl).2.2 g5 (i.toNat * width e) (by rw [← hk]; exact g7) (u := a.eval x) (by rw [← hk]; exact hf.size) hf.ones
        rw [← hk] at hrun
        have hset := Rows.set (Cells.len e) i.toNat g6 g1 hreg.cells
        rw [show (i.toNat + 1) * width e = i.toNat * width e + width e by rw [Nat.add_mul]; omega] at hset
        have hn' : m.nodes b = some (.var (.arr k e) c) := by rw [hR.nodes]; exact hn
        generalize hcs : (blk.toList.take (i.toNat * width e) ++ (a.eval x).cells.toList ++ blk.toList.drop (i.toNat * width e + width e)).toArray = ncs at hrun
        have hcl : ncs.toList = blk.toList.take (i.toNat * width e) ++ (a.eval x).cells.toList ++ blk.toList.drop (i.toNat * width e + width e) := by rw [← hcs]
        rw [← hcl] at hset
        have hle2 := set_le (nd' := .var (.arr k e) (.val (.arr k e) (List.set l i.toNat y))) hn' (show Kind.arr k e = Kind.arr k e from rfl) (g := g) (by rw [g3]; rfl) ncs
        have hC : Cells m.w m.O (.arr k e) ncs.toList (List.set l i.toNat y) := ⟨by rw [List.length_set]; exact g2, hset⟩
        have hR1 := hR.set hn (nd' := .var (.arr k e) (.val (.arr k e) (List.set l i.toNat y))) (show Kind.arr k e = Kind.arr k e from rfl) (g := g) (by rw [g3]; rfl) ncs
          ⟨g, ncs, ty, .agg ncs, by simp [Mem.set, g3], setRow_heap m.w g blk _ ty (0, 0) g5, rfl, by
            unfold Form; rw [if_pos (by simp [aggB])]
            exact ⟨ncs, rfl, by rw [← Array.length_toList, hC.length], hC.one⟩, by simp [fitsD, fits], by
            simp only [SRel]
            unfold Reg; rw [if_pos (by simp [aggB])]
            exact ⟨ncs, rfl, hC.keep hle2.keep⟩⟩
        exact ⟨_, h, .skipd (run_storeOp ho g4 hrun) rfl (hR1.put o.dst hd (SRel.dead _ _))⟩
      · cases h
    · cases h
  · cases h
end
end Go.Fm
