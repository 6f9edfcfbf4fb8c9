/- The functional machine: operations that make nodes. -/
import Derived.Test.YtmbcblabfgepfaaDoorFmM
import Derived.Laws.OwnMore
set_option autoImplicit true
set_option linter.unusedVariables false
set_option linter.unusedSimpArgs false
set_option linter.unusedSectionVars false
namespace Go.Fm
variable [Strict]

def HOp (P : Program) (o : Oper) (a : Act) (w : World) (st' : St) (w0 : World) (O0 : OX) (n : Nat) : Prop :=
  ∀ (next : Act → World → Prop) (Q : Exit → Act → World → Prop), (∀ a' m', Rel st' a' m' w0 O0 n → next a' m'.w) → o.wp P a w next Q

/-- and told what of memory has turned -/
def HOpZ (P : Program) (o : Oper) (a : Act) (w : World) (st' : St) (w0 : World) (O0 : OX) (n : Nat) (Z : Nat → Prop) : Prop :=
  ∀ (next : Act → World → Prop) (Q : Exit → Act → World → Prop), (∀ a' m', Rel st' a' m' w0 O0 n → Frame0 w Z m'.w → next a' m'.w) → o.wp P a w next Q
theorem HOpZ.op {P : Program} {o : Oper} {a : Act} {w : World} {st' : St} {w0 : World} {O0 : OX} {n : Nat} {Z : Nat → Prop} (h : HOpZ P o a w st' w0 O0 n Z) : HOp P o a w st' w0 O0 n := fun next Q hn => h next Q fun a' m' hR _ => hn a' m' hR
/-- blocks of rows -/
def RowB (m : Mem) (b : Nat) : Prop := ∃ q x, m.nodes q = some x ∧ isRow x = true ∧ Blk (m.loc q) b
/-- and what of its rows are where -/
def HOpR (P : Program) (o : Oper) (a : Act) (m : Mem) (st' : St) (w0 : World) (O0 : OX) (n : Nat) (Z : Nat → Prop) : Prop :=
  ∀ (next : Act → World → Prop) (Q : Exit → Act → World → Prop), (∀ a' m', Rel st' a' m' w0 O0 n → Frame0 m.w Z m'.w → (∀ b, RowB m' b → RowB m b ∨ m.w.heap.size ≤ b) → next a' m'.w) → o.wp P a m.w next Q
theorem HOpR.z {P : Program} {o : Oper} {a : Act} {m : Mem} {st' : St} {w0 : World} {O0 : OX} {n : Nat} {Z : Nat → Prop} (h : HOpR P o a m st' w0 O0 n Z) : HOpZ P o a m.w st' w0 O0 n Z := fun next Q hn => h next Q fun a' m' hR hf _ => hn a' m' hR hf
theorem HOpR.value {P : Program} {o : Oper} {a : Act} {m : Mem} {st' : St} {w0 : World} {O0 : OX} {n : Nat} {Z : Nat → Prop} {w' : World} {u : Value} (h : (execOp a.eval o).run P m.w = .ok (.value u) w') {m' : Mem} (hw : m'.w = w') (hR : Rel st' (a.put o.dst u) m' w0 O0 n) (hf : Frame0 m.w Z w') (hr : ∀ b, RowB m' b → RowB m b ∨ m.w.heap.size ≤ b) : HOpR P o a m st' w0 O0 n Z := by
  intro next Q hn
  unfold Oper.wp
  rw [h]
  have := hn _ _ hR (by rw [hw]; exact hf) hr
  rw [hw] at this
  exact this
/-- and what of its places are where they were -/
def HOpC (P : Program) (o : Oper) (a : Act) (m : Mem) (st' : St) (w0 : World) (O0 : OX) (n : Nat) (Z : Nat → Prop) : Prop :=
  ∀ (next : Act → World → Prop) (Q : Exit → Act → World → Prop), (∀ a' m', Rel st' a' m' w0 O0 n → Frame0 m.w Z m'.w → (∀ b, RowB m' b → RowB m b ∨ m.w.heap.size ≤ b) → (∀ q, m.used q = true → m'.used q = true ∧ m'.loc q = m.loc q) → next a' m'.w) → o.wp P a m.w next Q
theorem HOpC.r {P : Program} {o : Oper} {a : Act} {m : Mem} {st' : St} {w0 : World} {O0 : OX} {n : Nat} {Z : Nat → Prop} (h : HOpC P o a m st' w0 O0 n Z) : HOpR P o a m st' w0 O0 n Z := fun next Q hn => h next Q fun a' m' hR hf hr _ => hn a' m' hR hf hr
/-- nothing has -/
def HOpW (P : Program) (o : Oper) (a : Act) (w : World) (st' : St) (w0 : World) (O0 : OX) (n : Nat) : Prop := HOpZ P o a w st' w0 O0 n (fun _ => False)
theorem Grow.none {w w' : World} (h : Grow w w') : Frame0 w (fun _ => False) w' := ⟨h.os, h.tape, h.output, h.size, fun b hb _ => h.block b hb⟩
theorem Frame0.grows {w w' : World} {Z : Nat → Prop} (h : Frame0 w Z w') (hz : ∀ b, ¬ Z b) : Grow w w' := ⟨h.os, h.tape, h.output, h.size, fun b hb => h.block b hb (hz b)⟩
theorem HOpW.value {P : Program} {o : Oper} {a : Act} {st' : St} {w0 : World} {O0 : OX} {n : Nat} {w w' : World} {u : Value} (h : (execOp a.eval o).run P w = .ok (.value u) w') {m' : Mem} (hw : m'.w = w') (hR : Rel st' (a.put o.dst u) m' w0 O0 n) (hg : Grow w w') : HOpW P o a w st' w0 O0 n := by
  intro next Q hn
  unfold Oper.wp
  rw [h]
  have := hn _ _ hR (by rw [hw]; exact hg.none)
  rw [hw] at this
  exact this
section
variable {P : Program} {cx : Ctx} {st st' : St} {a : Act} {m : Mem} {w0 : World} {O0 : OX} {n : Nat} {R : Type} {r : R} {G : World → Prop} {o : Oper} {K : St → Option R}

theorem HOp.value {w w' : World} {u : Value} (h : (execOp a.eval o).run P w = .ok (.value u) w') {m' : Mem} (hw : m'.w = w') (hR : Rel st' (a.put o.dst u) m' w0 O0 n) : HOp P o a w st' w0 O0 n := by
  intro next Q hn
  unfold Oper.wp
  rw [h]
  have := hn _ _ hR
  rw [hw] at this
  exact this
theorem HOp.skip {w w' : World} (h : (execOp a.eval o).run P w = .ok .skip w') (hd : o.dst = none) {m' : Mem} (hw : m'.w = w') (hR : Rel st' a m' w0 O0 n) : HOp P o a w st' w0 O0 n := by
  intro next Q hn
  unfold Oper.wp
  rw [h]
  have := hn _ _ hR
  rw [hw] at this
  show next (a.put o.dst undef) w'
  rw [hd]; exact this

/-- a new node in a block of its own -/
def Mem.add (m : Mem) (w' : World) (i : Nat) (nd : Node) (v : Value) : Mem := ⟨w', upd m.nodes i (some nd), upd m.used i true, upd m.loc i v, m.X⟩
theorem upd_same {α : Type} (f : Nat → α) (i : Nat) (x : α) : upd f i x i = x := by simp [upd, Nat.beq_refl]
theorem upd_other {α : Type} (f : Nat → α) {i j : Nat} (x : α) (h : j ≠ i) : upd f i x j = f j := by
  have : Nat.beq j i = false := by cases hb : Nat.beq j i <;> simp_all [Nat.beq_eq]
  simp [upd, this]
theorem make_some {st st' : St} {i : Nat} {nd : Node} (h : st.make i nd = some st') : st.used i = false ∧ st'.nodes = upd st.nodes i (some nd) ∧ st'.used = upd st.used i true ∧ st'.slots = st.slots := by
  unfold St.make at h
  cases hu : st.used i with
  | true => simp [hu] at h
  | false => simp [hu] at h; subst h; exact ⟨rfl, rfl, rfl, rfl⟩

theorem add_le (hu : m.used i = false) (hok : Ok m w0 O0) {w' : World} (hg : Grow m.w w') {nd : Node} {v : Value} (hv : ∀ b, Blk v b → m.w.heap.size ≤ b) : m.le (m.add w' i nd v) where
  keep := ⟨fun b hb _ => hg.block b hb, by
    rintro b hb (⟨q, nd', h1, h2⟩ | hX)
    rotate_left
    · exact .inr hX
    by_cases hq : q = i
    · subst hq
      simp only [Mem.add, upd_same] at h2
      have := hv b h2; omega
    · simp only [Mem.add, upd_other _ _ hq] at h1 h2
      exact .inl ⟨q, nd', h1, h2⟩⟩
  used := fun q hq => by
    by_cases h : q = i
    · subst h; simp [Mem.add, upd_same]
    · simp [Mem.add, upd_other _ _ h, hq]
  loc := fun q hq => by
    have h : q ≠ i := fun h => by subst h; rw [hu] at hq; cases hq
    simp [Mem.add, upd_other _ _ h]
  node := fun q nd' hq hn => by
    have h : q ≠ i := fun h => by subst h; rw [hu] at hq; cases hq
    simp only [Mem.add, upd_other _ _ h] at hn
    exact .inr ⟨nd', hn, shape.refl nd'⟩

theorem Rel.add (hR : Rel st a m w0 O0 n) {i : Nat} {nd : Node} (hmk : st.make i nd = some st') {w' : World} (hg : Grow m.w w') {v : Value} (hv : ∀ b, Blk v b → m.w.heap.size ≤ b) (hn : NodeRel (m.add w' i nd v) i nd) :
    Rel st' a (m.add w' i nd v) w0 O0 n := by
  obtain ⟨h1, h2, h3, h4⟩ := make_some hmk
  have hu : m.used i = false := by rw [hR.used]; exact h1
  have hle := add_le hu hR.ok hg (nd := nd) hv
  refine ⟨?_, ?_, ?_, ?_, hR.defers, hR.size, hR.fixed⟩
  · simp only [Mem.add]; rw [h2, hR.nodes]
  · simp only [Mem.add]; rw [h3, hR.used]
  · have hnode : ∀ q nd', (m.add w' i nd v).nodes q = some nd' → q ≠ i → m.nodes q = some nd' := fun q nd' h hq => by simpa [Mem.add, upd_other _ _ hq] using h
    refine hR.ok.change rfl ⟨hg.os, hg.tape, hg.output, hg.size, fun b hb _ => hg.block b hb⟩ ?_ ?_ ?_ ?_
    · intro q nd' hq
      by_cases hqi : q = i
      · subst hqi
        simp only [Mem.add, upd_same] at hq
        cases hq; exact hn
      · have hq' := hnode q nd' hq hqi
        exact (hR.ok.node q nd' hq').mono hle (hR.ok.used q nd' hq') fun b hb => hg.block b ((hR.ok.node q nd' hq').blk_lt hb)
    · intro q nd' hq
      by_cases hqi : q = i
      · subst hqi; simp [Mem.add, upd_same]
      · simp [Mem.add, upd_other _ _ hqi, hR.ok.used q nd' (hnode q nd' hq hqi)]
    · rintro b ⟨q, nd', hq, hb⟩
      by_cases hqi : q = i
      · subst hqi
        simp only [Mem.add, upd_same] at hb
        exact .inr (hv b hb)
      · simp only [Mem.add, upd_other _ _ hqi] at hb
        exact .inl ⟨q, nd', hnode q nd' hq hqi, hb⟩
    · intro q q' nd1 nd2 b hq hq' hb hb'
      by_cases hqi : q = i <;> by_cases hqi' : q' = i
      · rw [hqi, hqi']
      · subst hqi
        simp only [Mem.add, upd_same] at hb
        simp only [Mem.add, upd_other _ _ hqi'] at hb'
        have h5 := hv b hb
        have h6 := (hR.ok.node q' nd2 (hnode q' nd2 hq' hqi')).blk_lt hb'
        omega
      · subst hqi'
        simp only [Mem.add, upd_same] at hb'
        simp only [Mem.add, upd_other _ _ hqi] at hb
        have h5 := hv b hb'
        have h6 := (hR.ok.node q nd1 (hnode q nd1 hq hqi)).blk_lt hb
        omega
      · simp only [Mem.add, upd_other _ _ hqi] at hb
        simp only [Mem.add, upd_other _ _ hqi'] at hb'
        exact hR.ok.inj q q' nd1 nd2 b (hnode q nd1 hq hqi) (hnode q' nd2 hq' hqi') hb hb'
  · intro t
    rw [h4]
    exact SRel.mono hle _ (hR.slot t)

theorem Grow.alloc (w : World) (x : Obj) : Grow w (w.alloc x) := ⟨rfl, ⟨rfl, fun _ => Nat.le_refl _⟩, rfl, by simp, fun b hb => heap_alloc_old w x b hb⟩

theorem born_some {nd : Node} {y : Nat → Slot} (h : born o K st nd y = some r) : ∃ st1, st.make (fresh st.gen o.dst 0) nd = some st1 ∧ K (st1.put o.dst (y (fresh st.gen o.dst 0))) = some r := by
  unfold born at h
  split at h
  · rename_i st1 h1; exact ⟨st1, h1, h⟩
  · cases h

theorem tyOK_wf (hT : TypesOK P cx) {t : TypeId} (h : plain (cx.kd t) = true) : (wfB (cx.kd t)).1 = true := by
  have h1 := (plain_of hT h).1
  unfold tyOK at h1
  cases hu : P.underlying t with
  | none => simp [hu] at h1
  | some d => cases hk : cx.kd t <;> simp [hk, plain] at h <;> cases d <;> simp [hu, hk] at h1 <;> simp [wfB] at h1 ⊢ <;> simp [h1]

/-- a variable in a block of its own -/
theorem var_node (hR : Rel st a m w0 O0 n) {i : Nat} (hu : st.used i = false) {k : Kind} {c : Slot} {u : Value} {ty : TypeId} (hs : SRel m c u) (hf : Form k u) (hd : fitsD k c = true) :
    NodeRel (m.add (m.w.alloc (.cells u.cells ty)) i (.var k c) (.pointer (some ⟨m.w.heap.size, 0, none⟩))) i (.var k c) := by
  have hle := add_le (i := i) (nd := .var k c) (by rw [hR.used]; exact hu) hR.ok (Grow.alloc m.w (.cells u.cells ty)) (v := .pointer (some ⟨m.w.heap.size, 0, none⟩)) (fun b hb => by simp [Blk, blkOf] at hb; omega)
  exact ⟨m.w.heap.size, u.cells, ty, u, by simp [Mem.add, upd_same], heap_alloc_new m.w _, rfl, hf, hd, SRel.mono hle c hs⟩
theorem var_slot {i : Nat} {k : Kind} {c : Slot} {w' : World} {g : Nat} : SRel (m.add w' i (.var k c) (.pointer (some ⟨g, 0, none⟩))) (.box i []) (.pointer (some ⟨g, 0, none⟩)) := by
  simp [SRel, Mem.add, upd_same, pathOff]

theorem hard_box (hT : TypesOK P cx) (hR : Rel st a m w0 O0 n) (hd : ∀ t, o.dst = some t → t < n ∧ O0.fx t = none) {t : TypeId} {x : Operand} (ho : o.op = .box t x) (h : hardC cx st o K = some r) : ∃ st', K st' = some r ∧ HOpW P o a m.w st' w0 O0 n := by
  simp only [hardC, ho] at h
  split at h
  · rename_i hp
    simp only [Bool.and_eq_true] at hp
    obtain ⟨st1, h1, h2⟩ := born_some h
    have hs := evalS_sound hR x
    have hn := var_node hR (make_some h1).1 (ty := t) hs (fits_form hp.2 hs) (fitsD_of hp.2)
    have hR1 := hR.add h1 (Grow.alloc m.w _) (fun b hb => by simp [Blk, blkOf] at hb; omega) hn
    refine ⟨_, h2, .value (w' := m.w.alloc (.cells (a.eval x).cells t)) ?_ rfl (hR1.put o.dst hd var_slot) (Grow.alloc m.w _)⟩
    simp [execOp, ho, Instr.box, newVar, newRow]
  · split at h
    · refine ⟨_, h, .value (m' := m.at (m.w.alloc (.cells (a.eval x).cells t))) (w' := m.w.alloc (.cells (a.eval x).cells t)) (u := .pointer (some ⟨m.w.heap.size, 0, none⟩)) ?_ rfl ((hR.grow (Grow.alloc m.w _)).put o.dst hd (by simp [SRel])) (Grow.alloc m.w _)⟩
      simp [execOp, ho, Instr.box, newVar, newRow]
    · cases h

/-- a row in a block of its own -/
theorem row_slot {i : Nat} {ty : TypeId} {e : Kind} {l : List e.T} {w' : World} {A : Option Addr} {k c : Nat} : SRel (m.add w' i (.row ty e l) (.slice A k c)) (.root i) (.slice A k c) := by
  simp [SRel, Mem.add, upd_same]
theorem DS_zero {w : World} {O : Nat → Prop} : ∀ {a : Kind}, dOK a = true → ((wfB a).1 = true ∨ (wfB a).2 = true) → DS w O a (zcells a) (zeroT a) (List.replicate (nsl a) (.slice none 0 0))
  | .pair a b, hd, h => by
    simp only [dOK, Bool.and_eq_true] at hd
    have h' : (wfB a).1 = true ∧ (wfB b).2 = true := by
      rcases h with h | h
      · simp [wfB] at h
      · simp only [wfB, Bool.and_eq_true] at h; exact h.1
    refine ⟨zcells a, zcells b, List.replicate (nsl a) (.slice none 0 0), List.replicate (nsl b) (.slice none 0 0), rfl, ?_, ?_, DS_zero hd.2 (.inr h'.2)⟩
    · simp [nsl]
    · have hc := Cells_zero (w := w) (O := O) a (.inl h'.1)
      have hd1 := hd.1
      cases a with
      | slice e => exact ⟨none, 0, 0, rfl, rfl⟩
      | pair a b => simp [leafOK] at hd1
      | unit => simp [leafOK] at hd1
      | _ => exact ⟨rfl, hc⟩
  | .slice e, hd, h => ⟨none, 0, 0, rfl, rfl⟩
  | .unit, hd, h => by simp [dOK, leafOK] at hd
  | .int k, hd, h => ⟨rfl, Cells_zero _ h⟩
  | .bool, hd, h => ⟨rfl, Cells_zero _ h⟩
  | .str, hd, h => ⟨rfl, Cells_zero _ h⟩
  | .struct k, hd, h => ⟨rfl, Cells_zero _ h⟩
  | .arr n k, hd, h => ⟨rfl, Cells_zero _ h⟩
  | .clo g k, hd, h => ⟨rfl, Cells_zero _ h⟩
  | .ref k, hd, h => ⟨rfl, Cells_zero _ h⟩
  | .mpk _ _, hd, h => ⟨rfl, Cells_zero _ h⟩
  | .mbx _ _, hd, h => ⟨rfl, Cells_zero _ h⟩
  | .recB _ _ _, hd, h => ⟨rfl, Cells_zero _ h⟩
  | .err, hd, h => ⟨rfl, Cells_zero _ h⟩
  | .fnk, hd, h => ⟨rfl, Cells_zero _ h⟩
theorem parts_zero : ∀ {a : Kind}, ∀ q ∈ partsP a (zeroT a), q.2 = []
  | .pair a b, q, hq => by
    rcases List.mem_append.1 hq with hq | hq
    · exact parts_zero (a := a) q hq
    · exact parts_zero (a := b) q hq
  | .slice e, q, hq => by rw [List.mem_singleton.1 hq]; rfl
  | .unit, q, hq | .int _, q, hq | .bool, q, hq | .str, q, hq | .struct _, q, hq | .arr _ _, q, hq | .clo _ _, q, hq | .ref _, q, hq | .mpk _ _, q, hq | .mbx _ _, q, hq | .recB _ _ _, q, hq | .err, q, hq | .fnk, q, hq => by cases hq
theorem deep_slot {i : Nat} {ty : TypeId} {e : Kind} {ts : List Nat} {l : List e.T} {w' : World} {A : Option Addr} {k c : Nat} {L : List (List Value)} : SRel (m.add w' i (.deep ty e ts l) (mkLoc (.slice A k c) L)) (.droot i) (.slice A k c) := by
  simp [SRel, Mem.add, upd_same, hdr_mk]
/-- a deep row of zeros -/
theorem deep_zeros {w : World} {O : Nat → Prop} {ty : Nat} {e : Kind} {ts : List Nat} (hB : deepB e ts = true) (hwf : (wfB e).1 = true) {u0 : Value} {k : Nat} (h : w.ownsRow 0 ty (width e) u0 k (List.replicate k (zcells e)).flatten) :
    DeepR w O ty e ts (mkLoc u0 (List.replicate k (List.replicate ts.length (.slice none 0 0)))) (List.replicate k (zeroT e)) (fun _ _ => False) := by
  obtain ⟨a, rfl, ha, hn⟩ := deepB_struct hB
  have nil : ∀ (i j : Nat) (us : List Value) (u : Value), (List.replicate k (List.replicate ts.length (Value.slice none 0 0)))[i]? = some us → us[j]? = some u → u = Value.slice none 0 0 := fun i j us u h1 h2 => by
    have h1 := (List.mem_replicate.1 (List.mem_of_getElem? h1)).2
    subst h1
    exact (List.mem_replicate.1 (List.mem_of_getElem? h2)).2
  refine ⟨u0, _, List.replicate k (zeroT (.struct a), List.replicate ts.length (.slice none 0 0)), by simp, hB, by simp, by simpa using h, ?_, ?_, ?_⟩
  · refine Rows.replicate (c := zcells (.struct a)) ?_ k
    show DS w O a (zcells a) (zeroT a) (List.replicate ts.length (.slice none 0 0))
    rw [← hn]
    exact DS_zero ha (.inr (by simpa [wfB] using hwf))
  · intro i j p u q ty' e1 e2 e3 e4 _
    have e1 := (List.mem_replicate.1 (List.mem_of_getElem? e1)).2
    subst e1
    have e2 := (List.mem_replicate.1 (List.mem_of_getElem? e2)).2
    subst e2
    have := parts_zero (a := a) q (List.mem_of_getElem? e3)
    refine ⟨[], ?_, ?_⟩
    · rw [this]; exact World.ownsRow_nil _ _ _ _
    · rw [this]; rfl
  · rw [List.map_replicate]
    constructor
    · intro i j us u b h1 h2 _ h3
      rw [nil i j us u h1 h2] at h3; simp [blkOf] at h3
    · intro i j i' j' us us' u u' b h1 h2 _ _ h3
      rw [nil i j us u h1 h2] at h3; simp [blkOf] at h3
theorem zcells_dk (e : Kind) : zcells (dk e) = zcells e := by cases e <;> rfl
theorem wf_dk {e : Kind} (h : (wfB e).1 = true) : (wfB (dk e)).1 = true := by
  cases e <;> first | exact h | rfl
theorem hard_alloc (hT : TypesOK P cx) (hR : Rel st a m w0 O0 n) (hd : ∀ t, o.dst = some t → t < n ∧ O0.fx t = none) {t : TypeId} (ho : o.op = .alloc t) (h : hardC cx st o K = some r) : ∃ st', K st' = some r ∧ HOpW P o a m.w st' w0 O0 n := by
  simp only [hardC, ho] at h
  cases harr : arrD cx t with
  | true =>
    rw [harr, cond_true] at h
    split at h
    · rename_i k e ts hk hdp
      cases hc : (deepB (.struct (.slice e)) ts && (Nat.ble 1 k && Nat.ble k maxLen)) with
      | false => rw [hc, cond_false] at h; cases h
      | true =>
        rw [hc, cond_true] at h
        simp only [Bool.and_eq_true, Nat.ble_eq] at hc
        obtain ⟨hB, hk1, hk2⟩ := hc
        obtain ⟨st1, h1, h2⟩ := born_some h
        obtain ⟨te, g2, g3, g4, g5, g6⟩ := kd_arr hT hk.symm
        obtain ⟨z, h3, h4, h5, h6⟩ := g5.zero
        have hz : z.cells.toList = (List.replicate k (zcells (.struct (.slice e)))).flatten := h4
        have hzl : z.cells.size = k * width (.struct (.slice e)) := by
          rw [← Array.length_toList, hz]; simp [zcells, width]
        have hv : ∀ b, Blk (mkLoc (.slice (some ⟨m.w.heap.size, 0, none⟩) k k) (List.replicate k (List.replicate ts.length (.slice none 0 0)))) b → m.w.heap.size ≤ b := fun b hb => by
          rcases (Blk_mk (by simp)).1 hb with hb | ⟨us, hus, u, hu, hb⟩
          · simp [blkOf] at hb; omega
          · rw [(List.mem_replicate.1 hus).2] at hu
            rw [(List.mem_replicate.1 hu).2] at hb
            simp [blkOf] at hb
        have hn : NodeRel (m.add (m.w.alloc (.cells z.cells t)) (fresh st.gen o.dst 0) (.deep t (.struct (.slice e)) ts (List.replicate k (zeroT (.struct (.slice e))))) (mkLoc (.slice (some ⟨m.w.heap.size, 0, none⟩) k k) (List.replicate k (List.replicate ts.length (.slice none 0 0)))))
            (fresh st.gen o.dst 0) (.deep t (.struct (.slice e)) ts (List.replicate k (zeroT (.struct (.slice e))))) := by
          simp only [NodeRel, Mem.add, upd_same]
          refine deep_zeros hB rfl ?_
          rw [← hz]
          refine ⟨by rw [Array.length_toList, hzl], .inr ⟨m.w.heap.size, k, z.cells, by simp, by omega, heap_alloc_new m.w _, by simp, by omega, hzl, ?_⟩⟩
          rw [List.take_of_length_le (by simp [hzl])]
        have hR1 := hR.add h1 (Grow.alloc m.w _) hv hn
        have hslot : SRel (m.add (m.w.alloc (.cells z.cells t)) (fresh st.gen o.dst 0) (.deep t (.struct (.slice e)) ts (List.replicate k (zeroT (.struct (.slice e))))) (mkLoc (.slice (some ⟨m.w.heap.size, 0, none⟩) k k) (List.replicate k (List.replicate ts.length (.slice none 0 0)))))
            (.delem (fresh st.gen o.dst 0) (.struct (.slice e)) 0 []) (.pointer (some ⟨m.w.heap.size, 0, none⟩)) := by
          simp only [SRel, Mem.add, upd_same, hdr_mk]
          exact ⟨trivial, Int.le_refl _, m.w.heap.size, k, k, 0, _, rfl, by omega, rfl, by simp⟩
        refine ⟨_, h2, .value (w' := m.w.alloc (.cells z.cells t)) ?_ rfl (hR1.put o.dst hd hslot) (Grow.alloc m.w _)⟩
        simp [execOp, ho, Instr.alloc, h3 m.w, newVar, newRow]
    · cases h
  | false =>
  rw [harr, cond_false] at h
  split at h
  · rename_i hp
    obtain ⟨st1, h1, h2⟩ := born_some h
    obtain ⟨z, h3, h4, h5, h6⟩ := (plain_of hT hp).2.2.zero
    obtain ⟨u, h7, h8, h9, h10⟩ := (zero_sound (m := m) (cx.kd t)).1 (tyOK_wf hT hp)
    have hz : u.cells = z.cells := by apply Array.toList_inj.1; rw [h7, h4]
    have hn := var_node hR (make_some h1).1 (ty := t) h10 h8 h9
    have hR1 := hR.add h1 (Grow.alloc m.w _) (fun b hb => by simp [Blk, blkOf] at hb; omega) hn
    refine ⟨_, h2, .value (w' := m.w.alloc (.cells u.cells t)) ?_ rfl (hR1.put o.dst hd var_slot) (Grow.alloc m.w _)⟩
    simp [execOp, ho, Instr.alloc, h3 m.w, newVar, newRow, hz]
  · cases h
theorem hard_makeSlice (hT : TypesOK P cx) (hR : Rel st a m w0 O0 n) (hd : ∀ t, o.dst = some t → t < n ∧ O0.fx t = none) {t : TypeId} {x y : Operand} (ho : o.op = .makeSlice t x y) (h : hardC cx st o K = some r) : ∃ st', K st' = some r ∧ HOpW P o a m.w st' w0 O0 n := by
  simp only [hardC, ho] at h
  split at h
  · rename_i e hk
    split at h
    · rename_i hwf
      obtain ⟨l, h1, h⟩ := onInt_some h
      obtain ⟨c, h2, h⟩ := onInt_some h
      have hx := int_of (evalS_sound hR x) h1
      have hy := int_of (evalS_sound hR y) h2
      split at h
      · rename_i hlc
        subst hlc
        split at h
        · rename_i h0
          split at h
          · rename_i hm
            obtain ⟨te, g2, g3, g4, g5, g6, g7⟩ := kd_slice hT hk.symm
            obtain ⟨i, z, g8, g9, g10, g11, _, _⟩ := g4.ex
            obtain ⟨i', g12, g13, g14, _⟩ := hT.most t te e g2 hk
            rw [g8] at g12; cases g12
            have hel := hT.elem t te e g2 hk
            have hc : c.toNat ≤ cx.most t := by omega
            have hb : (i.bytes : Int) * c ≤ 281474976710656 := by
              have h5 : cx.most t * i.bytes ≤ 140737488355328 := g13
              have h6 : c.toNat * i.bytes ≤ cx.most t * i.bytes := Nat.mul_le_mul_right _ hc
              have h7 : ((c.toNat * i.bytes : Nat) : Int) ≤ 140737488355328 := by omega
              rw [Int.natCast_mul, Int.toNat_of_nonneg h0] at h7
              rw [Int.mul_comm]; omega
            have hmx : c ≤ 9223372036854775807 := by simp [maxLen] at g14; omega
            have hrun := run_make (P := P) m.w t te i z g2 g8 g10 .i64 .i64 c c h0 (Int.le_refl _) hb hmx
            have hcells : (madeCells z.cells (c.toNat * i.size)).toList = (List.replicate c.toNat (zcells e)).flatten := by
              have hzl : z.cells.size = width e := by rw [← Array.length_toList, g11]; exact (Cells_zero (w := m.w) (O := m.O) e (.inl hwf)).length
              rw [g9]
              apply List.ext_getElem?
              intro j
              simp only [madeCells, Array.toList_map, Array.toList_range, List.getElem?_map]
              have hzc : ∀ q, q < width e → z.cells[q]! = (zcells e).getD q undef := by
                intro q hq
                rw [← g11]
                simp [hzl, hq, List.getD]
              have hlen : (zcells e).length = width e := by rw [← g11, Array.length_toList, hzl]
              have key : ∀ (k : Nat) (j : Nat), ((List.replicate k (zcells e)).flatten)[j]? = if j < k * width e then some ((zcells e).getD (j % width e) undef) else none := by
                intro k
                induction k with
                | zero => intro j; simp
                | succ k ih =>
                  intro j
                  rw [List.replicate_succ, List.flatten_cons, List.getElem?_append, hlen]
                  by_cases hj : j < width e
                  · rw [if_pos hj, if_pos (by rw [Nat.add_mul]; omega), Nat.mod_eq_of_lt hj]
                    simp [hlen, hj, List.getD]
                  · rw [if_neg hj, ih]
                    have hm' : (j - width e) % width e = j % width e := by rw [Nat.mod_eq_sub_mod (by omega : j ≥ width e)]
                    rw [hm']
                    by_cases hj2 : j - width e < k * width e
                    · rw [if_pos hj2, if_pos (by rw [Nat.add_mul]; omega)]
                    · rw [if_neg hj2, if_neg (by rw [Nat.add_mul]; omega)]
              rw [key]
              by_cases hj : j < c.toNat * width e
              · rw [if_pos hj]
                have : (List.range (c.toNat * width e))[j]? = some j := by simp [hj]
                rw [this]
                simp only [Option.map_some]
                rw [hzl, hzc _ (Nat.mod_lt _ (by omega))]
              · rw [if_neg hj]
                have : (List.range (c.toNat * width e))[j]? = none := by simp; omega
                rw [this]; rfl
            have hsz : (madeCells z.cells (c.toNat * i.size)).size = c.toNat * width e := by rw [size_madeCells, g9]
            have hrows : Rows (Cells m.w m.O e) (madeCells z.cells (c.toNat * i.size)).toList (List.replicate c.toNat (zeroT e)) := by
              rw [hcells]; exact Rows.replicate (Cells_zero e (.inl hwf)) _
            have hw' : Grow m.w (m.w.alloc (.cells (madeCells z.cells (c.toNat * i.size)) te)) := Grow.alloc m.w _
            have hv : ∀ b, Blk (.slice (some ⟨m.w.heap.size, 0, none⟩) c.toNat c.toNat) b → m.w.heap.size ≤ b := fun b hb => by simp [Blk, blkOf] at hb; omega
            have hown : ∀ w'' : World, w''.heap[m.w.heap.size]? = some (.cells (madeCells z.cells (c.toNat * i.size)) te (0, 0)) → w''.ownsRow 0 (cx.elem t) (width e) (.slice (some ⟨m.w.heap.size, 0, none⟩) c.toNat c.toNat) c.toNat (madeCells z.cells (c.toNat * i.size)).toList := fun w'' hh => by
              refine ⟨by simp [hsz], .inr ⟨m.w.heap.size, c.toNat, madeCells z.cells (c.toNat * i.size), by simp, by omega, by rw [hel]; exact hh, by simp, by omega, hsz, ?_⟩⟩
              rw [List.take_of_length_le (by simp [hsz])]
            cases hdp : cx.dp t with
            | some ts =>
              simp only [hdp] at h
              cases hB : deepB (dk e) ts with
              | false => rw [hB, cond_false] at h; cases h
              | true =>
                rw [hB, cond_true] at h
                obtain ⟨st1, h3, h4⟩ := born_some h
                have hv : ∀ b, Blk (mkLoc (.slice (some ⟨m.w.heap.size, 0, none⟩) c.toNat c.toNat) (List.replicate c.toNat (List.replicate ts.length (.slice none 0 0)))) b → m.w.heap.size ≤ b := fun b hb => by
                  rcases (Blk_mk (by simp)).1 hb with hb | ⟨us, hus, u, hu, hb⟩
                  · simp [blkOf] at hb; omega
                  · rw [(List.mem_replicate.1 hus).2] at hu
                    rw [(List.mem_replicate.1 hu).2] at hb
                    simp [blkOf] at hb
                have hn : NodeRel (m.add (m.w.alloc (.cells (madeCells z.cells (c.toNat * i.size)) te)) (fresh st.gen o.dst 0) (.deep (cx.elem t) (dk e) ts (List.replicate c.toNat (zeroT (dk e)))) (mkLoc (.slice (some ⟨m.w.heap.size, 0, none⟩) c.toNat c.toNat) (List.replicate c.toNat (List.replicate ts.length (.slice none 0 0)))))
                    (fresh st.gen o.dst 0) (.deep (cx.elem t) (dk e) ts (List.replicate c.toNat (zeroT (dk e)))) := by
                  simp only [NodeRel, Mem.add, upd_same]
                  refine deep_zeros hB (wf_dk hwf) ?_
                  rw [width_dk, zcells_dk, ← hcells]
                  exact hown _ (heap_alloc_new m.w _)
                have hR1 := hR.add h3 hw' hv hn
                refine ⟨_, h4, .value ?_ rfl (hR1.put o.dst hd deep_slot) hw'⟩
                simp [execOp, ho, hx, hy, hrun]
                rfl
            | none =>
            simp only [hdp] at h
            obtain ⟨st1, h3, h4⟩ := born_some h
            have hle := add_le (i := fresh st.gen o.dst 0) (nd := .row (cx.elem t) e (List.replicate c.toNat (zeroT e))) (by rw [hR.used]; exact (make_some h3).1) hR.ok hw' hv
            have hn : NodeRel (m.add (m.w.alloc (.cells (madeCells z.cells (c.toNat * i.size)) te)) (fresh st.gen o.dst 0) (.row (cx.elem t) e (List.replicate c.toNat (zeroT e))) (.slice (some ⟨m.w.heap.size, 0, none⟩) c.toNat c.toNat))
                (fresh st.gen o.dst 0) (.row (cx.elem t) e (List.replicate c.toNat (zeroT e))) := by
              refine ⟨(madeCells z.cells (c.toNat * i.size)).toList, ?_, hrows.imp fun c x hc => hc.keep hle.keep⟩
              simp only [Mem.add, upd_same]
              refine ⟨by simp [hsz], .inr ⟨m.w.heap.size, c.toNat, madeCells z.cells (c.toNat * i.size), by simp, by omega, by rw [hel]; exact heap_alloc_new m.w _, by simp, by omega, hsz, ?_⟩⟩
              rw [List.take_of_length_le (by simp [hsz])]
            have hR1 := hR.add h3 hw' hv hn
            refine ⟨_, h4, .value ?_ rfl (hR1.put o.dst hd row_slot) hw'⟩
            simp [execOp, ho, hx, hy, hrun]
            rfl
          · cases h
        · cases h
      · cases h
    · cases h
  · cases h
end
end Go.Fm
