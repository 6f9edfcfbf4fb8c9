/- The functional machine: operations that leave memory alone. -/
import Derived.Test.YtmbcblabfgepfaaDoorFmDp
import Derived.Deep.Quiet
set_option autoImplicit true
set_option linter.unusedVariables false
set_option linter.unusedSimpArgs false
set_option linter.unusedSectionVars false
namespace Go.Fm
variable [Strict]

/-- types that compare by their parts -/
def eqB (P : Program) (kd : Nat → Kind) : Nat → TypeId → Bool
  | 0, _ => false
  | d + 1, t => (match P.underlying t, kd t with
    | some (.int _), .int _ => true
    | some .bool, .bool => true
    | some .string, .str => true
    | some (.array _ te), .arr _ _ => eqB P kd d te
    | some (.struct fs), .struct _ => !P.stoodInHeld t && fs.toList.all fun f => !(f.name == "_") && eqB P kd d f.type
    | _, _ => false)
def eqTop (P : Program) (kd : Nat → Kind) (t : TypeId) : Bool := !P.eqGuardType P.depth t && eqB P kd 40 t
structure TypesOK (P : Program) (cx : Ctx) : Prop where
  ty : ∀ t, cx.kd t ≠ .unit → tyOK P cx.kd t = true
  elem : ∀ t te e, P.underlying t = some (.slice te) → cx.kd t = .slice e → cx.elem t = te
  most : ∀ t te e, P.underlying t = some (.slice te) → cx.kd t = .slice e → ∃ i, P.info? te = some i ∧ cx.most t * i.bytes ≤ 140737488355328 ∧ cx.most t ≤ maxLen ∧ 1 ≤ i.bytes
  eqs : ∀ t, cx.eqs t = true → eqTop P cx.kd t = true
  mp : ∀ t kt et, cx.mp t = some (kt, et) → P.underlying t = some (.map kt et)

/-- one value, however the world has grown -/
def QOp (P : Program) (op : Op) (a : Act) (m : Mem) (x : Slot) : Prop :=
  ∃ u, SRel m x u ∧ ∀ (o : Oper), o.op = op → ∀ w', Grow m.w w' → o.quietAt P a (Grow w') w' u
theorem QOp.run {P : Program} {op : Op} {a : Act} {m : Mem} {x : Slot} (u : Value) (h1 : SRel m x u)
    (h2 : ∀ o : Oper, o.op = op → ∀ w', Grow m.w w' → (execOp a.eval o).run P w' = .ok (.value u) w') : QOp P op a m x :=
  ⟨u, h1, fun o ho w' hg => by unfold Oper.quietAt; rw [h2 o ho w' hg]; exact ⟨rfl, rfl⟩⟩
theorem quiet_weak {P : Program} {o : Oper} {a : Act} {w w' : World} {u : Value} (hg : Grow w w') (h : o.quietAt P a (Grow w') w' u) : o.quietAt P a (Grow w) w' u := by
  unfold Oper.quietAt at *
  generalize (execOp a.eval o).run P w' = res at *
  cases res with
  | ok x w2 =>
    cases x <;> simp only [Oper.quietUpon] at h ⊢ <;> try exact h
    obtain ⟨h1, h2⟩ := h
    exact ⟨h1, h2.mono fun e w3 ⟨h4, h5⟩ => ⟨h4, hg.trans h5⟩⟩
  | halt x w2 => exact h

section
variable {P : Program} {cx : Ctx} {st : St} {a : Act} {m : Mem} {w0 : World} {O0 : OX} {n : Nat}

theorem Rel.put (hR : Rel st a m w0 O0 n) (d : Option Nat) (hd : ∀ t, d = some t → t < n ∧ O0.fx t = none) {x : Slot} {u : Value} (hx : SRel m x u) : Rel (st.put d x) (a.put d u) m w0 O0 n := by
  cases d with
  | none => exact hR
  | some d =>
    refine ⟨hR.nodes, hR.used, hR.ok, ?_, hR.defers, by simp [Act.put, hR.size], fun t v hv => ?_⟩
    rotate_left
    · have hne : t ≠ d := fun h => by subst h; rw [(hd t rfl).2] at hv; cases hv
      have h := hR.fixed t v hv
      simp only [Act.put, Array.getD_eq_getD_getElem?] at h ⊢
      rw [Array.getElem?_setIfInBounds_ne (Ne.symm hne)]
      exact h
    intro t
    simp only [St.put, upd, Act.put]
    have hlt : d < a.tmps.size := by rw [hR.size]; exact (hd d rfl).1
    by_cases ht : t = d
    · subst ht
      simp [hlt, hx]
    · have : Nat.beq t d = false := by cases hb : Nat.beq t d <;> simp_all [Nat.beq_eq]
      rw [this]
      simp only [cond_false]
      have h := hR.slot t
      simp only [Array.getD_eq_getD_getElem?] at h ⊢
      rw [Array.getElem?_setIfInBounds_ne (Ne.symm ht)]
      exact h

theorem evalS_sound (hR : Rel st a m w0 O0 n) (x : Operand) : SRel m (evalS st x) (a.eval x) := by
  cases x with
  | tmp t => exact hR.slot t
  | const v =>
    simp only [evalS, Act.eval]
    unfold constS
    split <;> simp only [SRel]
    · exact Reg.bool _
    · exact Reg.int _ _
    · exact Reg.str _
  | global g => simp [evalS, SRel]
  | func f =>
    simp only [evalS, Act.eval, SRel]
    unfold Reg; rw [if_neg (by simp [aggB])]
    exact ⟨rfl, [], rfl, rfl⟩

theorem onInt_some {R : Type} {x : Slot} {C : Int → Option R} {r : R} (h : onInt x C = some r) : ∃ i : Int, x = .val (.int .i64) i ∧ C i = some r := by
  unfold onInt at h
  split at h
  · exact ⟨_, rfl, h⟩
  · cases h
theorem int_of {x : Slot} {u : Value} {i : Int} (h : SRel m x u) (hx : x = .val (.int .i64) i) : u = .int .i64 i := by
  subst hx; simp only [SRel] at h; exact h.int_inv

theorem split_some {R : Type} {x : Slot} {A B : Option R} {r : R} {u : Value} (hs : SRel m x u) (h : split x A B = some r) : (u = .bool true ∧ A = some r) ∨ (u = .bool false ∧ B = some r) := by
  unfold split at h
  split at h
  · rename_i b
    simp only [SRel] at hs
    rw [hs.bool_inv]
    cases b <;> simp at h ⊢ <;> exact h
  · rename_i p d
    simp only [SRel] at hs
    rw [hs]
    by_cases hp : p
    · rw [if_pos hp] at h; simp [hp, h]
    · rw [if_neg hp] at h; simp [hp, h]
  · cases h

theorem soft_move (hR : Rel st a m w0 O0 n) (x : Operand) : QOp P (.move x) a m (evalS st x) :=
  .run _ (evalS_sound hR x) fun o ho w' hg => by simp [execOp, ho]
theorem soft_assign (hR : Rel st a m w0 O0 n) (x : Operand) : QOp P (.assign x) a m (evalS st x) :=
  .run _ (evalS_sound hR x) fun o ho w' hg => by simp [execOp, ho]
theorem soft_pick (hR : Rel st a m w0 O0 n) (c x y : Operand) {R : Type} {C : Slot → Option R} {r : R} (h : split (evalS st c) (C (evalS st x)) (C (evalS st y)) = some r) :
    ∃ s, C s = some r ∧ QOp P (.pick c x y) a m s := by
  rcases split_some (evalS_sound hR c) h with ⟨h1, h2⟩ | ⟨h1, h2⟩
  · exact ⟨_, h2, .run _ (evalS_sound hR x) fun o ho w' hg => by simp [execOp, ho, h1, asBool]⟩
  · exact ⟨_, h2, .run _ (evalS_sound hR y) fun o ho w' hg => by simp [execOp, ho, h1, asBool]⟩

theorem tyOK_oneB {t : TypeId} (h : tyOK P cx.kd t = true) : oneB (cx.kd t) = true := by
  unfold tyOK at h
  cases hu : P.underlying t with
  | none => simp [hu] at h
  | some d => cases hk : cx.kd t <;> simp [hu, hk] at h <;> simp [oneB, aggB, width]

theorem heap_grow {w w' : World} {b : Nat} {x : Obj} (hg : Grow w w') (h : w.heap[b]? = some x) : w'.heap[b]? = some x := (hg.block b (lt_of_heap h)).trans h

theorem info_of (hT : TypesOK P cx) {t : TypeId} (h0 : cx.kd t ≠ .unit) (hr : ∀ a, cx.kd t ≠ .ref a) : Info P t (cx.kd t) := tyOK_info (hT.ty t h0) hr

theorem run_loadOp {o : Oper} {t : TypeId} {p : Operand} (ho : o.op = .load t p) {A : Addr} (hp : a.eval p = .pointer (some A)) {w' : World} {u : Value} (h : (loadVar t A).run P w' = .ok u w') :
    (execOp a.eval o).run P w' = .ok (.value u) w' := by
  simp [execOp, ho, Instr.loadAt, Instr.sureAddr, hp, h]

theorem plain_of (hT : TypesOK P cx) {t : TypeId} (h : plain (cx.kd t) = true) : tyOK P cx.kd t = true ∧ oneB (cx.kd t) = true ∧ Info P t (cx.kd t) := by
  have h0 : cx.kd t ≠ .unit := fun e => by rw [e] at h; simp [plain] at h
  have h1 : ∀ a, cx.kd t ≠ .ref a := fun a e => by rw [e] at h; simp [plain] at h
  exact ⟨hT.ty t h0, tyOK_oneB (hT.ty t h0), info_of hT h0 h1⟩

theorem justVal_form {x : Slot} {k : Kind} {v : k.T} {u : Value} (h : justVal x k = some v) (hs : SRel m x u) : Reg m.w m.O k u v := by
  unfold justVal at h
  split at h
  · obtain ⟨rfl, rfl⟩ := cast?_some h
    simpa only [SRel] using hs
  · obtain ⟨rfl, rfl⟩ := cast?_some h
    simp only [SRel] at hs
    subst hs; exact Reg.bool _
  · cases h

/-- an array in a variable, and its element -/
theorem arr_cells (hR : Rel st a m w0 O0 n) {b : Nat} {i : Int} {k : Nat} {e : Kind} {c : Slot} {l : List e.T} {u : Value} (hn : st.nodes b = some (.var (.arr k e) c)) (hl : justVal c (.arr k e) = some l) (hs : SRel m (.cell b i) u) :
    0 ≤ i ∧ i.toNat < l.length ∧ l.length = k ∧ ∃ g blk ty, m.loc b = .pointer (some ⟨g, 0, none⟩) ∧ u = .pointer (some ⟨g, i.toNat * width e, none⟩) ∧ m.w.heap[g]? = some (.cells blk ty (0, 0)) ∧ Rows (Cells m.w m.O e) blk.toList l ∧ i.toNat * width e + width e ≤ blk.size ∧ blk.size = k * width e := by
  have hn' : m.nodes b = some (.var (.arr k e) c) := by rw [hR.nodes]; exact hn
  simp only [SRel] at hs
  obtain ⟨h1, h2, g, h3, h4⟩ := hs.2 k e c hn'
  obtain ⟨g', blk, ty, v, h5, h6, h7, h8, h9, h10⟩ := hR.ok.node b _ hn'
  rw [h3] at h5; simp at h5; subst h5
  have hc := (justVal_form hl h10).cells
  rw [h7] at hc
  obtain ⟨h11, h12⟩ := hc
  have hlen : blk.toList.length = k * width e := by rw [h12.length (Cells.len e), h11]
  have hlt : i.toNat < k := by omega
  have hle : i.toNat * width e + width e ≤ k * width e := by
    have := Nat.mul_le_mul_right (width e) (show i.toNat + 1 ≤ k from hlt)
    rw [Nat.add_mul] at this; omega
  have hsz : blk.size = k * width e := by rw [← Array.length_toList]; exact hlen
  exact ⟨h1, by rw [h11]; exact hlt, h11, g, blk, ty, h3, h4, h6, h12, by rw [hsz]; exact hle, hsz⟩
theorem insC_cells {w : World} {O : Nat → Prop} : ∀ {q : Nat} {c : Kind} {x : Sigma Kind.T} {v : c.T} {y : Sigma Kind.T} {us : List Value} {u : Value}, insC q c x v = some y → Cells w O c (us.eraseIdx q) v → us[q]? = some u → Cells w O x.1 [u] x.2 → Cells w O y.1 us y.2
  | 0, c, x, v, y, us, u, h, hc, hu, hx => by
    simp only [insC, Option.some.injEq] at h
    subst h
    cases us with
    | nil => simp at hu
    | cons z us =>
      simp only [List.getElem?_cons_zero, Option.some.injEq] at hu
      subst hu
      exact ⟨[z], us, rfl, hx, by simpa using hc⟩
  | q + 1, c, x, v, y, us, u, h, hc, hu, hx => by
    cases c <;> simp only [insC] at h <;> (try (cases h; done))
    rename_i a b
    cases hw : Nat.beq (width a) 1 with
    | false => rw [hw] at h; cases h
    | true =>
    rw [hw, cond_true] at h
    split at h
    · rename_i y' hy
      simp only [Option.some.injEq] at h
      subst h
      cases us with
      | nil => simp at hu
      | cons z us =>
        simp only [List.getElem?_cons_succ] at hu
        obtain ⟨c1, c2, e, h1, h2⟩ := hc
        have hl := h1.length
        have hw1 : width a = 1 := Nat.eq_of_beq_eq_true hw
        rw [hw1] at hl
        obtain ⟨u0, rfl⟩ := List.length_eq_one_iff.1 hl
        simp only [List.eraseIdx_cons_succ, List.singleton_append, List.cons.injEq] at e
        obtain ⟨rfl, rfl⟩ := e
        exact ⟨[z], us, rfl, h1, insC_cells hy h2 hu hx⟩
    · cases h
theorem soft_load (hT : TypesOK P cx) (hR : Rel st a m w0 O0 n) (t : TypeId) (p : Operand) {R : Type} {C : Slot → Option R} {r : R} (h : softC cx st (.load t p) C = some r) :
    ∃ s, C s = some r ∧ QOp P (.load t p) a m s := by
  have hp := evalS_sound hR p
  simp only [softC] at h
  cases hpl : plain (cx.kd t) with
  | false =>
    rw [hpl, cond_false] at h
    split at h
    · rename_i g hk
      have hi := info_of (t := t) hT (by rw [hk]; simp) (by rw [hk]; simp)
      have hty := hT.ty t (by rw [hk]; simp)
      refine ⟨_, h, .run (.agg #[]) ?_ fun oo hoo w' hg => run_loadOp (A := ⟨g, 0, none⟩) hoo rfl ?_⟩
      · simp only [SRel]; unfold Reg; rw [if_pos (show aggB (.struct .unit) = true from rfl)]; exact ⟨#[], rfl, rfl⟩
      · unfold loadVar
        rw [Sem.run_bind, tyOK_agg hty w', Result.andThen_ok]
        simp [hk, aggB, hi.sizeOf w', width, loadCells, loadCellsFrom]
    · cases h
  | true =>
  rw [hpl, cond_true] at h
  obtain ⟨ht, ho, hi⟩ := plain_of hT hpl
  split at h
  · -- a variable
    rename_i b path hev
    rw [hev] at hp
    simp only [SRel] at hp
    split at h
    · rename_i k c hn
      have hn' : m.nodes b = some (.var k c) := by rw [hR.nodes]; exact hn
      obtain ⟨g, o', k', h1, h2, h3⟩ := hp.2 k c hn'
      obtain ⟨g', blk, ty, u, h4, h5, h6, h7, h8, h9⟩ := hR.ok.node b _ hn'
      rw [h1] at h4; simp at h4; subst h4
      simp only [h2] at h
      split at h
      · rename_i hk
        split at h
        · rename_i x hx
          have hle := pathOff_le h2
          have hsz := h7.size
          rw [h6] at hsz
          obtain ⟨g1, g2, g3⟩ := getP_sound h7 h8 h9 h2 (by rw [hk]; exact ho) hx
          refine ⟨x, h, .run _ g1 fun oo hoo w' hg => run_loadOp hoo h3 ?_⟩
          rw [h6, hk]
          exact run_loadVar ht ho hi (heap_grow hg h5) o' (by rw [← hk]; omega)
        · cases h
      · cases h
    · cases h
  · -- an element
    rename_i q i path hev
    rw [hev] at hp
    simp only [SRel] at hp
    split at h
    · rename_i ty e l hn
      have hn' : m.nodes q = some (.row ty e l) := by rw [hR.nodes]; exact hn
      obtain ⟨g0, g1, g, nn, cap, o', k', h1, h2, h3⟩ := hp.2 ty e l hn'
      obtain ⟨xs, h4, h5⟩ := hR.ok.node q _ hn'
      split at h
      · rename_i k2 v hv
        split at h
        · rename_i hk
          rcases h4.2 with ⟨h6, _⟩ | ⟨g', cap', cur, h6, _, h7, h8, _, h9, h10⟩
          · rw [h1] at h6; simp at h6
          · rw [h1] at h6; simp at h6; obtain ⟨rfl, rfl, rfl⟩ := h6
            have hil : i.toNat < l.length := by omega
            have hrd : rdT e l i = l[i.toNat] := by simp [rdT, hil]
            have hc := Rows.get (Cells.len e) i.toNat h5 hil
            rw [← hrd] at hc
            obtain ⟨e2, h11⟩ := projs_sound hc h2 hv
            dsimp only at e2
            subst e2
            have hle := pathOff_le h2
            have hdd : ((List.take (width e) (List.drop (i.toNat * width e) xs)).drop o').take (width k2) = (cur.toList.drop (i.toNat * width e + o')).take (width k2) := by
              rw [← h10, ← take_drop_add _ _ _ _ _ hle, List.drop_take, List.take_take]
              congr 1
              have : i.toNat * width e + width e ≤ l.length * width e := by
                have := Nat.mul_le_mul_right (width e) (show i.toNat + 1 ≤ l.length from hil)
                rw [Nat.add_mul] at this; omega
              omega
            rw [hdd] at h11
            have hw : i.toNat * width e + o' + width (cx.kd t) ≤ cur.size := by
              have h12 := Nat.mul_le_mul_right (width e) (show i.toNat + 1 ≤ cap from by omega)
              rw [Nat.add_mul] at h12
              rw [h9, ← hk]; omega
            have hf := Form.of_cells h11 (by rw [hk]; simpa [oneB, Bool.or_eq_true] using ho)
            refine ⟨_, h, .run (regOf (cx.kd t) ((cur.toList.drop (i.toNat * width e + o')).take (width (cx.kd t)))) ?_ fun oo hoo w' hg => run_loadOp hoo h3 (run_loadVar ht ho hi (heap_grow hg h7) _ hw)⟩
            rw [← hk]
            simp only [SRel]
            exact Reg.of hf.1 (by rw [hf.2]; exact h11)
        · cases h
      · cases h
    · cases h
  · -- an element of a deep row
    rename_i q e0 i path hev
    rw [hev] at hp
    simp only [SRel] at hp
    split at h
    · rename_i ty e ts l hn
      have hn' : m.nodes q = some (.deep ty e ts l) := by rw [hR.nodes]; exact hn
      split at h
      · rename_i he
        subst he
        obtain ⟨hus, h0, g, nn, cap, o', k', h1, hlt, h2, h3⟩ := hp
        have hD : DeepR m.w m.O ty e0 ts (m.loc q) l (fun _ _ => False) := hR.ok.node q _ hn'
        obtain ⟨cur, ty', us, h4, h5, h6, h7, h8, h9⟩ := deep_elem hD h1 h0 hlt
        have hB : deepB e0 ts = true := by obtain ⟨_, _, _, _, hB, _⟩ := hD; exact hB
        obtain ⟨a', rfl, ha, _⟩ := deepB_struct hB
        have h7 : DS m.w m.O a' _ (rdT (.struct a') l i) us := h7
        have hle := pathOff_le h2
        cases hfl : flat (cx.kd t) with
        | true =>
          rw [hfl, cond_true] at h
          split at h
          · rename_i k2 v hv
            split at h
            · rename_i hk
              have hne : path ≠ [] := by
                intro e; subst e
                simp [projs] at hv
                obtain ⟨e1, _⟩ := hv
                rw [← hk, ← e1, deepB_flat hB] at hfl; cases hfl
              obtain ⟨e2, h11⟩ := DS.path ha h7 h2 hne hv (by show flat k2 = true; rw [hk]; exact hfl)
              dsimp only at e2
              subst e2
              rw [← take_drop_add _ _ _ _ _ hle] at h11
              have hf := Form.of_cells h11 (by rw [hk]; simpa [oneB, Bool.or_eq_true] using ho)
              refine ⟨_, h, .run (regOf (cx.kd t) ((cur.toList.drop (i.toNat * width (.struct a') + o')).take (width (cx.kd t)))) ?_ fun oo hoo w' hg => run_loadOp hoo h3 (run_loadVar ht ho hi (heap_grow hg h4) _ (by rw [← hk]; omega))⟩
              rw [← hk]
              simp only [SRel]
              exact Reg.of hf.1 (by rw [hf.2]; exact h11)
            · cases h
          · cases h
        | false =>
          rw [hfl, cond_false] at h
          split at h
          · rename_i f a2 l2 heq hll
            cases heq
            cases eq_of_heq hll
            split at h
            · rename_i o2 e' hf2
              split at h
              · rename_i hk
                have ho2 : o2 = o' ∧ k' = .slice e' := by
                  simp only [pathOff, hf2, Option.some.injEq, Prod.mk.injEq, Nat.add_zero] at h2
                  exact ⟨h2.1, h2.2.symm⟩
                obtain ⟨rfl, rfl⟩ := ho2
                rcases DS.field ha h7 hf2 with ⟨e, A, n, c, vs, _, e2, e3, _⟩ | ⟨e1, _⟩
                · refine ⟨_, h, .run (.slice A n c) ?_ fun oo hoo w' hg => run_loadOp hoo h3 ?_⟩
                  · simp only [SRel]
                    exact ⟨hus, h0, by rw [h8]; exact e3, _, _, _, rfl⟩
                  · have := run_loadVar (P := P) ht ho hi (heap_grow hg h4) (i.toNat * width (.struct a') + o2) (by rw [← hk]; omega)
                    rw [this, ← hk]
                    have e4 := take_drop_add cur.toList (i.toNat * width (.struct a')) o2 1 (width (.struct a')) (by simpa [width] using hle)
                    rw [show width (Kind.slice e') = 1 from rfl, e4, e2]
                    rfl
                · exact absurd rfl (e1 _)
              · cases h
            · cases h
          · rename_i a2 l2 heq hll
            cases heq
            cases eq_of_heq hll
            split at h
            · rename_i hk
              have ho' : o' = 0 ∧ k' = .struct a' := by
                simp only [pathOff, Option.some.injEq, Prod.mk.injEq] at h2
                exact ⟨h2.1.symm, h2.2.symm⟩
              obtain ⟨rfl, rfl⟩ := ho'
              obtain ⟨regs, hcs, hsr⟩ := partS_rel hus h0 (f := 0) (j := 0) ha h7 (fun jj u hj => by rw [h8, Nat.zero_add]; exact hj)
              refine ⟨_, h, .run (regOf (cx.kd t) ((cur.toList.drop (i.toNat * width (.struct a') + 0)).take (width (cx.kd t)))) ?_ fun oo hoo w' hg => run_loadOp hoo h3 (run_loadVar ht ho hi (heap_grow hg h4) _ (by rw [← hk]; omega))⟩
              simp only [SRel]
              refine ⟨a', regs, rfl, ?_, hsr⟩
              rw [← hk, ← hcs]
              simp [regOf, aggB]
            · split at h
              · rename_i e' l2 _ _ _
                split at h
                · rename_i hk
                  have ho' : o' = 0 := by
                    simp only [pathOff, Option.some.injEq, Prod.mk.injEq] at h2
                    exact h2.1.symm
                  subst ho'
                  obtain ⟨A, n1, c1, e2, e3⟩ := h7
                  refine ⟨_, h, .run (.slice A n1 c1) ?_ fun oo hoo w' hg => run_loadOp hoo h3 ?_⟩
                  · simp only [SRel]
                    exact ⟨hus, h0, by rw [h8, e3, e2]; rfl, _, _, _, rfl⟩
                  · have := run_loadVar (P := P) ht ho hi (heap_grow hg h4) (i.toNat * width (.struct (.slice e')) + 0) (by rw [← hk]; simpa [width] using h9)
                    rw [this, ← hk, Nat.add_zero]
                    have e4 : (cur.toList.drop (i.toNat * width (.struct (.slice e')))).take (width (Kind.slice e')) = [.slice A n1 c1] := e2
                    rw [e4]
                    rfl
                · cases h
              · cases h
          · cases h
      · cases h
    · cases h
  · -- memory that no one owns
    rename_i k v hev
    rw [hev] at hp
    simp only [SRel] at hp
    split at h
    · rename_i hk
      unfold Reg at hp; rw [if_neg (by simp [aggB])] at hp
      obtain ⟨_, b, off, blk, ty, fr, h1, h2, h3, h4⟩ := hp
      have h1 : a.eval p = .pointer (some ⟨b, off, none⟩) := by simpa using h1
      have hf := Form.of_cells h4 (by rw [hk]; simpa [oneB, Bool.or_eq_true] using ho)
      have hl := h4.length
      refine ⟨_, h, .run (regOf (cx.kd t) ((blk.toList.drop off).take (width (cx.kd t)))) ?_ fun oo hoo w' hg => run_loadOp hoo h1 (run_loadVar ht ho hi (heap_grow hg h2) off ?_)⟩
      · rw [← hk]
        simp only [SRel]
        exact Reg.of hf.1 (by rw [hf.2]; exact h4)
      · rw [← hk]
        simp at hl
        have hz : width k ≠ 0 := by
          rw [hk]
          cases hkk : cx.kd t <;> simp [hkk, plain] at hpl <;> simp [width]
          · omega
          · intro h1
            omega
        omega
    · cases h
  · -- a function value that looks at the variable in which it lies
    rename_i g q c v hev
    rw [hev] at hp
    simp only [SRel] at hp
    split at h
    · rename_i hk
      split at h
      · rename_i c' v' hins
        unfold Reg at hp; rw [if_neg (by simp [aggB])] at hp
        obtain ⟨_, B, caps, ty, fr, h1, h2, h3, h4, h5⟩ := hp
        have h1 : a.eval p = .pointer (some ⟨B, 0, none⟩) := by simpa using h1
        refine ⟨_, h, .run (.func (.func g) #[] caps.toArray) ?_ fun oo hoo w' hg => run_loadOp hoo h1 ?_⟩
        · simp only [SRel]
          unfold Reg; rw [if_neg (by simp [aggB])]
          exact ⟨rfl, caps, rfl, insC_cells hins h5 h4 ⟨B, caps, ty, fr, rfl, h2, h3, h4, h5⟩⟩
        · have := run_loadVar ht ho hi (heap_grow hg h2) 0 (by rw [← hk]; simp [width])
          rw [this, ← hk]
          simp [regOf, aggB, width]
      · cases h
    · cases h
  · -- an array's element
    rename_i b i hev
    rw [hev] at hp
    split at h
    · rename_i k e c hn
      split at h
      · rename_i l hl
        split at h
        · rename_i hk
          obtain ⟨g0, g1, g2, g, blk, ty, g3, g4, g5, g6, g7, _⟩ := arr_cells hR hn hl hp
          have hrd : rdT e l i = l[i.toNat] := by simp [rdT, g1]
          have hc := Rows.get (Cells.len e) i.toNat g6 g1
          rw [← hrd] at hc
          have hf := Form.of_cells hc (by rw [hk]; simpa [oneB, Bool.or_eq_true] using ho)
          refine ⟨_, h, .run (regOf (cx.kd t) ((blk.toList.drop (i.toNat * width e)).take (width (cx.kd t)))) ?_ fun oo hoo w' hg => run_loadOp hoo g4 (run_loadVar ht ho hi (heap_grow hg g5) _ (by rw [← hk]; exact g7))⟩
          rw [← hk]
          simp only [SRel]
          exact Reg.of hf.1 (by rw [hf.2]; exact hc)
        · cases h
      · cases h
    · cases h
  · cases h
end
end Go.Fm
