/- The functional machine: stores, rows, appends. -/
import Derived.Test.YtmbcblabfgepfaaDoorFmTn
set_option autoImplicit true
set_option linter.unusedVariables false
set_option linter.unusedSimpArgs false
set_option linter.unusedSectionVars false
namespace Go.Fm
variable [Strict]

section
variable {P : Program} {cx : Ctx} {st st' : St} {a : Act} {m m' : Mem} {w0 : World} {O0 : OX} {n : Nat} {R : Type} {r : R} {G : World → Prop} {o : Oper} {K : St → Option R}

theorem HOp.skipd {w w' : World} (h : (execOp a.eval o).run P w = .ok .skip w') {m' : Mem} (hw : m'.w = w') (hR : Rel st' (a.put o.dst undef) m' w0 O0 n) : HOp P o a w st' w0 O0 n := by
  intro next Q hn
  unfold Oper.wp
  rw [h]
  have := hn _ _ hR
  rw [hw] at this
  exact this
theorem SRel.dead (m : Mem) (u : Value) : SRel m .dead u := by simp [SRel]
theorem Form.kind {k : Kind} {u : Value} (h : Form k u) : aggB k = true ∨ width k = 1 := by
  unfold Form at h
  by_cases hc : aggB k = true
  · exact .inl hc
  · rw [if_neg hc] at h; exact .inr h.2

/-- a row's front goes on as a row of its own -/
theorem front_sound (hR : Rel st a m w0 O0 n) {i : Nat} {x y : Slot} {u : Value} {st1 : St} (hs : SRel m x u) (h : frontS st i x = some (y, st1)) :
    ∃ m1, m1.w = m.w ∧ Rel st1 a m1 w0 O0 n ∧ SRel m1 y u ∧ m1.loc = (fun q => if q = i then m1.loc i else m.loc q) ∧ (∀ b k c, st.nodes b = some (.var k c) → st1.nodes b = some (.var k c) ∧ m1.loc b = m.loc b) := by
  have triv : some (x, st) = some (y, st1) → ∃ m1, m1.w = m.w ∧ Rel st1 a m1 w0 O0 n ∧ SRel m1 y u ∧ m1.loc = (fun q => if q = i then m1.loc i else m.loc q) ∧ (∀ b k c, st.nodes b = some (.var k c) → st1.nodes b = some (.var k c) ∧ m1.loc b = m.loc b) := by
    intro h
    simp only [Option.some.injEq, Prod.mk.injEq] at h
    obtain ⟨rfl, rfl⟩ := h
    exact ⟨m, rfl, hR, hs, by funext q; split <;> simp [*], fun b k c hb => ⟨hb, rfl⟩⟩
  cases x <;> simp only [frontS] at h <;> (try (exact triv h))
  rename_i q lo hi
  split at h
  rotate_left
  · cases h
  rename_i hlo
  split at h
  rotate_left
  · cases h
  rename_i ty e l' hn
  split at h
  rotate_left
  · cases h
  rename_i st' hmk
  simp only [Option.some.injEq, Prod.mk.injEq] at h
  obtain ⟨rfl, rfl⟩ := h
  obtain ⟨hm1, hm2, hm3, hm4⟩ := make_some hmk
  dsimp only at hm1 hm2 hm3 hm4
  simp only [SRel] at hs
  have hn' : m.nodes q = some (.row ty e l') := by rw [hR.nodes]; exact hn
  have hqu : m.used q = true := hs.1
  have hiu : m.used i = false := by rw [hR.used]; exact hm1
  have hqi : q ≠ i := fun h => by rw [h] at hqu; rw [hqu] at hiu; cases hiu
  obtain ⟨k0, k1, k2, A, c, k3, k4, _, k5⟩ := hs.2 ty e l' hn'
  obtain ⟨n1, k6⟩ := k5 hlo
  have hN : NodeRel m q (.row ty e l') := hR.ok.node q _ hn'
  obtain ⟨xs, h4, h5⟩ := hN
  have hhi : (hi - lo).toNat = hi.toNat := by omega
  have hlen : (l'.take hi.toNat).length = hi.toNat := by rw [List.length_take]; omega
  have hbu : blkOf u = blkOf (m.loc q) := by rw [k3, k6]; cases A <;> rfl
  have hBu : ∀ b, Blk u b ↔ blkOf u = some b := fun b => by rw [k3]
  have hrow : m.w.ownsRow 0 ty (width e) u (l'.take hi.toNat).length (xs.take (hi.toNat * width e)) := by
    have hx := h4.1
    have hle : hi.toNat * width e ≤ l'.length * width e := Nat.mul_le_mul_right _ (by omega)
    refine ⟨by rw [List.length_take, hlen, hx, Nat.min_eq_left hle], ?_⟩
    rw [hlen, k3, hhi]
    rcases h4.2 with ⟨e1, e2⟩ | ⟨g, cap, cur, e1, e0, e2, e3, e4, e5, e6⟩
    · rw [k6] at e1
      simp only [Value.slice.injEq] at e1
      obtain ⟨rfl, _, rfl⟩ := e1
      have : hi.toNat = 0 := by omega
      rw [this]
      exact .inl ⟨rfl, rfl⟩
    · rw [k6] at e1
      simp only [Value.slice.injEq] at e1
      obtain ⟨rfl, _, rfl⟩ := e1
      refine .inr ⟨g, c, cur, rfl, e0, e2, by omega, e4, e5, ?_⟩
      rw [← e6, List.take_take, Nat.min_eq_left hle]
  let m1 : Mem := ⟨m.w, upd (upd m.nodes q none) i (some (.row ty e (l'.take hi.toNat))), upd m.used i true, upd m.loc i u, m.X⟩
  have hli : m1.loc i = u := by simp [m1, upd_same]
  have hlo2 : ∀ q', q' ≠ i → m1.loc q' = m.loc q' := fun q' h => by simp [m1, upd_other _ _ h]
  have hm1n : ∀ q' x, m1.nodes q' = some x → (q' = i ∧ x = .row ty e (l'.take hi.toNat)) ∨ (q' ≠ i ∧ q' ≠ q ∧ m.nodes q' = some x) := fun q' x hx => by
    by_cases h1 : q' = i
    · subst h1; simp only [m1, upd_same] at hx; cases hx; exact .inl ⟨rfl, rfl⟩
    · simp only [m1, upd_other _ _ h1] at hx
      by_cases h2 : q' = q
      · subst h2; rw [upd_same] at hx; cases hx
      · rw [upd_other _ _ h2] at hx; exact .inr ⟨h1, h2, hx⟩
  have hT : Turn m m1 (fun b => Blk (m.loc q) b) := by
    refine ⟨rfl, fun b hb => ⟨q, _, hn', hb⟩, Frame0.refl _ _, fun q' hq' => ?_, fun q' hq' => ?_, fun q' x hq' hx => ?_, fun q' x hq' hx b hb => ?_⟩
    · by_cases h1 : q' = i
      · subst h1; simp [m1, upd_same]
      · simp [m1, upd_other _ _ h1, hq']
    · exact hlo2 q' fun h1 => by subst h1; rw [hq'] at hiu; cases hiu
    · rcases hm1n q' x hx with ⟨h1, _⟩ | ⟨h1, h2, h3⟩
      · subst h1; rw [hq'] at hiu; cases hiu
      · exact ⟨h3, fun b hb hb' => h2 (hR.ok.inj q' q x _ b h3 hn' hb hb')⟩
    · rcases hm1n q' x hx with ⟨h1, _⟩ | ⟨h1, h2, h3⟩
      · subst h1
        rw [hli, hBu, hbu] at hb
        exact .inl ((own_blk h4).2 hb)
      · have := hR.ok.used q' x h3; rw [this] at hq'; cases hq'
  have hOm : ∀ b, m1.O b → m.O b := by
    rintro b (⟨q', x, h1, h2⟩ | h1)
    · rcases hm1n q' x h1 with ⟨g1, _⟩ | ⟨g1, g2, g3⟩
      · subst g1
        rw [hli, hBu, hbu] at h2
        exact .inl ⟨q, _, hn', (own_blk h4).2 h2⟩
      · rw [hlo2 q' g1] at h2; exact .inl ⟨q', x, g3, h2⟩
    · exact .inr h1
  have hR1 : Rel st' a m1 w0 O0 n := by
    refine hT.rel hR (by rw [hm4]) (by rw [hm2]; show upd (upd m.nodes q none) i _ = _; rw [hR.nodes]) (by rw [hm3]; show upd m.used i true = _; rw [hR.used]) (fun q' x hq' hx => ?_) (fun q1 q2 x1 x2 b g1 g2 g3 g4 g5 g6 => ?_)
    · rcases hm1n q' x hx with ⟨h1, rfl⟩ | ⟨h1, h2, h3⟩
      · subst h1
        refine ⟨by simp [m1, upd_same], _, by rw [hli]; exact hrow, (Rows.take (Cells.len e) hi.toNat h5).imp fun c x hc => hc.keep (Keep.less hOm)⟩
      · have := hR.ok.used q' x h3; rw [this] at hq'; cases hq'
    · rcases hm1n q1 x1 g3 with ⟨h1, _⟩ | ⟨_, _, h3⟩
      · rcases hm1n q2 x2 g4 with ⟨h2, _⟩ | ⟨_, _, h3⟩
        · rw [h1, h2]
        · have := hR.ok.used q2 x2 h3; rw [this] at g2; cases g2
      · have := hR.ok.used q1 x1 h3; rw [this] at g1; cases g1
  refine ⟨m1, rfl, hR1, ?_, ?_, fun b k c0 hb => ?_⟩
  · simp only [SRel]
    exact ⟨by simp [m1, upd_same], ⟨A, _, c, k3⟩, fun _ _ _ _ => hli.symm⟩
  · funext q'
    split
    · rename_i h; rw [h]
    · rename_i h; exact hlo2 q' h
  · have hb' : m.nodes b = some (.var k c0) := by rw [hR.nodes]; exact hb
    have hbi : b ≠ i := fun h => by subst h; have := hR.ok.used b _ hb'; rw [this] at hiu; cases hiu
    have hbq : b ≠ q := fun h => by subst h; rw [hn'] at hb'; cases hb'
    exact ⟨by rw [hm2, upd_other _ _ hbi, upd_other _ _ hbq]; exact hb, hlo2 b hbi⟩
theorem hard_store_box (hT : TypesOK P cx) (hR : Rel st a m w0 O0 n) (hd : ∀ t, o.dst = some t → t < n ∧ O0.fx t = none) {t : TypeId} {p x : Operand} (ho : o.op = .store t p x) {b : Nat} {path : List Nat} (hev : evalS st p = .box b path)
    (h : hardC cx st o K = some r) : ∃ st', K st' = some r ∧ HOp P o a m.w st' w0 O0 n := by
  simp only [hardC, ho] at h
  cases hpl : plain (cx.kd t) with
  | false => simp [hpl] at h
  | true =>
  simp only [hpl, cond_true, hev] at h
  split at h
  · rename_i k c hn
    split at h
    · rename_i o1 k' hpo
      split at h
      · rename_i hk
        split at h
        rotate_left
        · cases h
        rename_i y st1 hfr
        split at h
        · rename_i c' hset
          have hp := evalS_sound hR p
          rw [hev] at hp; simp only [SRel] at hp
          have hn' : m.nodes b = some (.var k c) := by rw [hR.nodes]; exact hn
          obtain ⟨g, o2, k2, h1, h2, h3⟩ := hp.2 k c hn'
          rw [hpo] at h2; cases h2
          obtain ⟨m1, hmw, hR1, hx, _, hv1⟩ := front_sound hR (evalS_sound hR x) hfr
          obtain ⟨hnb, hlb⟩ := hv1 b k c hn
          have hnb' : m1.nodes b = some (.var k c) := by rw [hR1.nodes]; exact hnb
          rw [← hlb] at h1
          obtain ⟨g', blk, ty, u, h4, h5, h6, h7, h8, h9⟩ := hR1.ok.node b _ hnb'
          rw [h1] at h4; simp at h4; subst h4
          obtain ⟨g1, g2, u', g3, g4, g5⟩ := setP_sound h7 h8 h9 hx hpo h7.kind hset
          have hle := pathOff_le hpo
          have hsz := h7.size
          rw [h6] at hsz
          have hrun := run_storeVar (P := P) (t := t) (plain_of hT hpl).2.2 h5 o1 (by rw [← hk]; omega) (u := a.eval x) (by rw [← hk]; exact g1.size) g1.ones
          have hcs : (blk.toList.take o1 ++ (a.eval x).cells.toList ++ blk.toList.drop (o1 + width (cx.kd t))).toArray = u'.cells := by
            apply Array.toList_inj.1; rw [g4, ← h6, ← hk]
          rw [hcs] at hrun
          have hle2 := set_le (nd' := .var k c') hnb' (show k = k from rfl) (g := g) (by rw [h1]; rfl) u'.cells
          have hR2 := hR1.set hnb (nd' := .var k c') (show k = k from rfl) (g := g) (by rw [h1]; rfl) u'.cells
            ⟨g, u'.cells, ty, u', by simp [Mem.set, h1], setRow_heap m1.w g blk _ ty (0, 0) h5, rfl, g3, g2, SRel.mono hle2 c' g5⟩
          rw [hmw] at hrun
          exact ⟨_, h, .skipd (run_storeOp ho h3 hrun) (by show m1.w.setRow g u'.cells = _; rw [hmw]) (hR2.put o.dst hd (SRel.dead _ _))⟩
        · cases h
      · cases h
    · cases h
  · cases h

theorem take_splice {α : Type} (l m : List α) (p k N : Nat) (hm : m.length = k) (h : p + k ≤ N) (hl : N ≤ l.length) : (l.take p ++ m ++ l.drop (p + k)).take N = (l.take N).take p ++ m ++ (l.take N).drop (p + k) := by
  rw [List.take_append, List.take_of_length_le (l := l.take p ++ m) (by simp; omega), List.take_take, Nat.min_eq_left (by omega), List.drop_take]
  congr 2
  simp [hm]; omega

theorem laid_some {α : Type} {xs : List Slot} {told : (Nat → Option Node) → Option α} {C : α → St → Option R} (h : laid st xs told C = some r) :
    ∃ v nd, told st.nodes = some v ∧ kills st.nodes (xs.flatMap (roots 8)) = some nd ∧ C v { st with nodes := nd } = some r := by
  unfold laid at h
  split at h
  · rename_i v hv
    split at h
    · rename_i nd hnd; exact ⟨v, nd, hv, hnd, h⟩
    · cases h
  · cases h
theorem kills_was : ∀ {l : List Nat} {nodes nd : Nat → Option Node}, kills nodes l = some nd → ∀ q ∈ l, ∃ x, nodes q = some x
  | [], nodes, nd, h => by simp
  | r :: l, nodes, nd, h => by
    simp only [kills] at h
    have h' : ∃ x, nodes r = some x ∧ kills (upd nodes r none) l = some nd := by
      split at h
      · rename_i hr; exact ⟨_, hr, h⟩
      · rename_i hr; exact ⟨_, hr, h⟩
      · cases h
    obtain ⟨x0, hr, h⟩ := h'
    intro q hq
    rcases List.mem_cons.1 hq with rfl | hq
    · exact ⟨_, hr⟩
    · obtain ⟨x, hx⟩ := kills_was h q hq
      by_cases hqr : q = r
      · subst hqr; exact ⟨_, hr⟩
      · exact ⟨x, by simpa [upd_other _ _ hqr] using hx⟩
/-- what was laid: its rows are no one's -/
theorem laid_reg (hR : Rel st a m w0 O0 n) {nd : Nat → Option Node} {l : List Nat} (hk : kills st.nodes l = some nd) {x : Slot} {k : Kind} {v : k.T} {u : Value} (hv : asVal st.nodes 8 x k = some v) (hs : SRel m x u) (hx : ∀ q ∈ roots 8 x, q ∈ l) :
    Reg m.w (m.cut nd).O k u v := by
  obtain ⟨h1, h2⟩ := kills_some hk
  have hsub : ∀ q x, nd q = some x → m.nodes q = some x := fun q x h => by rw [hR.nodes]; exact h1 q x h
  refine asVal_sound (m := m) (nodes := st.nodes) (fun q x h => by rw [hR.nodes]; exact h) hR.ok.node (fun b h => h.imp (fun ⟨q, x, h3, h4⟩ => ⟨q, x, hsub q x h3, h4⟩) id) 8 x k v u hv hs ?_
  rintro q hq b hb (⟨q', x', h3, h4⟩ | hX)
  rotate_left
  · obtain ⟨x0, h5⟩ := kills_was hk q (hx q hq)
    exact hR.ok.apart ⟨q, x0, by rw [hR.nodes]; exact h5, hb⟩ hX
  obtain ⟨x0, h5⟩ := kills_was hk q (hx q hq)
  have : q' = q := hR.ok.inj q' q x' x0 b (hsub q' x' h3) (by rw [hR.nodes]; exact h5) h4 hb
  subst this
  have h6 := h2 q' (hx q' hq)
  simp only [Mem.cut] at h3
  rw [h6] at h3; cases h3

theorem hard_store_elem (hT : TypesOK P cx) (hR : Rel st a m w0 O0 n) (hd : ∀ t, o.dst = some t → t < n ∧ O0.fx t = none) {t : TypeId} {p x : Operand} (ho : o.op = .store t p x) {q : Nat} {i : Int} {path : List Nat} (hev : evalS st p = .elem q i path)
    (h : hardC cx st o K = some r) : ∃ st', K st' = some r ∧ HOp P o a m.w st' w0 O0 n := by
  simp only [hardC, ho] at h
  cases hpl : plain (cx.kd t) with
  | false => simp [hpl] at h
  | true =>
  simp only [hpl, cond_true, hev] at h
  obtain ⟨y, nd, h1, h2, h⟩ := laid_some h
  have hx := evalS_sound hR x
  have hreg := laid_reg hR h2 h1 hx (fun q hq => by simpa using hq)
  have hR1 := hR.cut (kills_some h2).1
  have hp := evalS_sound hR1 p
  rw [show evalS { st with nodes := nd } p = evalS st p from by cases p <;> rfl, hev] at hp
  simp only [SRel] at hp
  simp only at h
  split at h
  · rename_i ty e l hn
    split at h
    · rename_i z hz
      rw [setAt_eq hz] at h
      obtain ⟨g0, g1, g, nn, cap, o1, k1, h3, h4, h5⟩ := hp.2 ty e l hn
      obtain ⟨xs, h6, h7⟩ := row_loc hR1 hn
      rcases h6.2 with ⟨h8, _⟩ | ⟨g', cap', cur, h8, _, h9, h10, h11, h12, h13⟩
      · rw [h3] at h8; simp at h8
      · rw [h3] at h8; simp at h8; obtain ⟨rfl, rfl, rfl⟩ := h8
        have hil : i.toNat < l.length := by omega
        have hrd : rdT e l i = l[i.toNat] := by simp [rdT, hil]
        have hc := Rows.get (Cells.len e) i.toNat h7 hil
        rw [← hrd] at hc
        obtain ⟨e2, h14⟩ := upds_sound hc h4 hz hreg.cells
        dsimp only at e2
        subst e2
        have hle := pathOff_le h4
        have hxl : xs.length = l.length * width e := h6.1
        have hil2 : i.toNat * width e + width e ≤ l.length * width e := by
          have := Nat.mul_le_mul_right (width e) (show i.toNat + 1 ≤ l.length from hil)
          rw [Nat.add_mul] at this; omega
        have hcap : l.length * width e ≤ cap * width e := Nat.mul_le_mul_right _ h10
        have hset := Rows.set (Cells.len e) i.toNat h7 hil h14
        rw [show (i.toNat + 1) * width e = i.toNat * width e + width e by rw [Nat.add_mul]; omega, splice_splice xs _ _ _ _ _ hle (by omega)] at hset
        have hf := hreg.form
        have hus : (a.eval x).cells.toList.length = width (cx.kd t) := by simpa using hf.size
        have hrun := run_storeVar (P := P) (t := t) (plain_of hT hpl).2.2 h9 (i.toNat * width e + o1) (by rw [h12]; omega) hf.size hf.ones
        have hnode : NodeRel ((m.cut nd).set ((m.cut nd).w.setRow g (cur.toList.take (i.toNat * width e + o1) ++ (a.eval x).cells.toList ++ cur.toList.drop (i.toNat * width e + o1 + width (cx.kd t))).toArray) q (.row ty e (l.set i.toNat z))) q (.row ty e (l.set i.toNat z)) := by
          have hn' : (m.cut nd).nodes q = some (.row ty e l) := hn
          have hle2 := set_le hn' (show shape (.row ty e l) (.row ty e (l.set i.toNat z)) from ⟨rfl, rfl, by simp⟩) (g := g) (by rw [h3]; rfl) (cur.toList.take (i.toNat * width e + o1) ++ (a.eval x).cells.toList ++ cur.toList.drop (i.toNat * width e + o1 + width (cx.kd t))).toArray
          refine ⟨_, ?_, hset.imp fun c x hc => hc.keep hle2.keep⟩
          refine ⟨by simp only [List.length_append, List.length_take, List.length_drop, hus, List.length_set, hxl]; omega, .inr ⟨g, cap, _, by simp [Mem.set, h3], by simp, setRow_heap m.w g cur _ ty (0, 0) h9, by simpa using h10, h11, by simp [hus, h12]; omega, ?_⟩⟩
          simp only [List.length_set]
          rw [take_splice cur.toList (a.eval x).cells.toList (i.toNat * width e + o1) (width (cx.kd t)) (l.length * width e) hus (by omega) (by simp [h12]; omega), h13, Nat.add_assoc]
        have hR2 := hR1.set (nd' := .row ty e (l.set i.toNat z)) hn ⟨rfl, rfl, by simp⟩ (g := g) (by rw [h3]; rfl) _ hnode
        exact ⟨_, h, .skipd (run_storeOp ho h5 hrun) rfl (hR2.put o.dst hd (SRel.dead _ _))⟩
    · cases h
  · cases h
theorem hard_store_cell (hT : TypesOK P cx) (hR : Rel st a m w0 O0 n) (hd : ∀ t, o.dst = some t → t < n ∧ O0.fx t = none) {t : TypeId} {p x : Operand} (ho : o.op = .store t p x) {b : Nat} {i : Int} (hev : evalS st p = .cell b i)
    (h : hardC cx st o K = some r) : ∃ st', K st' = some r ∧ HOp P o a m.w st' w0 O0 n := by
  simp only [hardC, ho] at h
  cases hpl : plain (cx.kd t) with
  | false => simp [hpl] at h
  | true =>
  simp only [hpl, cond_true, hev] at h
  split at h
  · rename_i k e c hn
    split at h
    · rename_i l y hl hy
      split at h
      · rename_i hk
        have hp := evalS_sound hR p
        rw [hev] at hp
        obtain ⟨g0, g1, g2, g, blk, ty, g3, g4, g5, g6, g7, g8⟩ := arr_cells hR hn hl hp
        have hreg := justVal_form hy (evalS_sound hR x)
        have hf := hreg.form
        have hus : (a.eval x).cells.toList.length = width e := by simpa using hf.size
        have hrun := run_storeVar (P := P) (t := t) (plain_of hT hpl).2.2 g5 (i.toNat * width e) (by rw [← hk]; exact g7) (u := a.eval x) (by rw [← hk]; exact hf.size) hf.ones
        rw [← hk] at hrun
        have hset := Rows.set (Cells.len e) i.toNat g6 g1 hreg.cells
        rw [show (i.toNat + 1) * width e = i.toNat * width e + width e by rw [Nat.add_mul]; omega] at hset
        have hn' : m.nodes b = some (.var (.arr k e) c) := by rw [hR.nodes]; exact hn
        generalize hcs : (blk.toList.take (i.toNat * width e) ++ (a.eval x).cells.toList ++ blk.toList.drop (i.toNat * width e + width e)).toArray = ncs at hrun
        have hcl : ncs.toList = blk.toList.take (i.toNat * width e) ++ (a.eval x).cells.toList ++ blk.toList.drop (i.toNat * width e + width e) := by rw [← hcs]
        rw [← hcl] at hset
        have hle2 := set_le (nd' := .var (.arr k e) (.val (.arr k e) (List.set l i.toNat y))) hn' (show Kind.arr k e = Kind.arr k e from rfl) (g := g) (by rw [g3]; rfl) ncs
        have hC : Cells m.w m.O (.arr k e) ncs.toList (List.set l i.toNat y) := ⟨by rw [List.length_set]; exact g2, hset⟩
        have hR1 := hR.set hn (nd' := .var (.arr k e) (.val (.arr k e) (List.set l i.toNat y))) (show Kind.arr k e = Kind.arr k e from rfl) (g := g) (by rw [g3]; rfl) ncs
          ⟨g, ncs, ty, .agg ncs, by simp [Mem.set, g3], setRow_heap m.w g blk _ ty (0, 0) g5, rfl, by
            unfold Form; rw [if_pos (by simp [aggB])]
            exact ⟨ncs, rfl, by rw [← Array.length_toList, hC.length], hC.one⟩, by simp [fitsD, fits], by
            simp only [SRel]
            unfold Reg; rw [if_pos (by simp [aggB])]
            exact ⟨ncs, rfl, hC.keep hle2.keep⟩⟩
        exact ⟨_, h, .skipd (run_storeOp ho g4 hrun) rfl (hR1.put o.dst hd (SRel.dead _ _))⟩
      · cases h
    · cases h
  · cases h
end
end Go.Fm
