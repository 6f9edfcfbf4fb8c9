/- The functional machine: structs built, functions called that leave memory alone. -/
import Derived.Test.YtmbcblabfgepfaaDoorFmK
set_option autoImplicit true
set_option linter.unusedVariables false
set_option linter.unusedSimpArgs false
set_option linter.unusedSectionVars false
namespace Go.Fm
variable [Strict]

theorem run_mapML {P : Program} {α β : Type} {g : α → Sem β} {g' : α → β} {w : World} : ∀ (l : List α), (∀ x ∈ l, (g x).run P w = .ok (g' x) w) → (l.mapM g).run P w = .ok (l.map g') w
  | [], _ => by simp
  | x :: l, h => by
    rw [List.mapM_cons]
    have h1 := h x (by simp)
    have h2 := run_mapML l (fun y hy => h y (by simp [hy]))
    simp [h1, h2]
theorem run_mapMA {P : Program} {α β : Type} {g : α → Sem β} {g' : α → β} {w : World} (l : Array α) (h : ∀ x ∈ l.toList, (g x).run P w = .ok (g' x) w) : (l.mapM g).run P w = .ok (l.map g') w := by
  rw [Array.mapM_eq_mapM_toList, Sem.run_map, run_mapML l.toList h]
  simp only [Result.andThen_ok]
  congr 1
  apply Array.toList_inj.1
  simp

theorem fieldsOK_all {P : Program} {kd : Nat → Kind} : ∀ {fs : List Field} {a : Kind} {o : Nat}, fieldsOK P kd fs a o = true → ∀ f ∈ fs, ∃ k, Info P f.type k
  | [], _, _, _, f, hf => by cases hf
  | [fl], a, o, h, f, hf => by
    have := List.mem_singleton.1 hf; subst this
    cases a <;> simp [fieldsOK] at h <;> exact ⟨_, Info.of h.1.2⟩
  | fl :: g :: l, a, o, h, f, hf => by
    cases a with
    | pair a b =>
      simp only [fieldsOK, Bool.and_eq_true, decide_eq_true_eq] at h
      obtain ⟨⟨⟨⟨h1, h2⟩, h3⟩, h4⟩, h5⟩ := h
      rcases List.mem_cons.1 hf with rfl | hf
      · exact ⟨_, Info.of h3⟩
      · exact fieldsOK_all h5 f hf
    | _ => simp [fieldsOK] at h
/-- the fields' number -/
theorem fieldOff_zeroF : ∀ {b : Kind} {f o : Nat} {k : Kind}, fieldOff b f = some (o, k) → f < (zeroF b).length
  | .pair a b, 0, o, k, h => by simp [zeroF, zeroB]
  | .pair a b, f + 1, o, k, h => by
    simp only [fieldOff] at h
    cases hb : fieldOff b f with
    | none => simp [hb] at h
    | some z =>
      have := fieldOff_zeroF (b := b) (f := f) (o := z.1) (k := z.2) hb
      simp only [zeroF, zeroB, List.length_cons] at this ⊢
      omega
  | .unit, f, o, k, h => by simp [fieldOff] at h
  | .int _, 0, o, k, h | .bool, 0, o, k, h | .str, 0, o, k, h | .struct _, 0, o, k, h | .slice _, 0, o, k, h | .arr _ _, 0, o, k, h | .clo _ _, 0, o, k, h | .ref _, 0, o, k, h | .mpk _ _, 0, o, k, h | .mbx _ _, 0, o, k, h | .recB _ _ _, 0, o, k, h | .err, 0, o, k, h | .fnk, 0, o, k, h => by simp [zeroF, zeroB]
  | .int _, _ + 1, o, k, h | .bool, _ + 1, o, k, h | .str, _ + 1, o, k, h | .struct _, _ + 1, o, k, h | .slice _, _ + 1, o, k, h | .arr _ _, _ + 1, o, k, h | .clo _ _, _ + 1, o, k, h | .ref _, _ + 1, o, k, h | .mpk _ _, _ + 1, o, k, h | .mbx _ _, _ + 1, o, k, h | .recB _ _ _, _ + 1, o, k, h | .err, _ + 1, o, k, h | .fnk, _ + 1, o, k, h => by
    simp [fieldOff] at h

section
variable {P : Program} {cx : Ctx} {st : St} {a : Act} {m : Mem} {w0 : World} {O0 : OX} {n : Nat} {R : Type} {C : Slot → Option R} {r : R}

theorem justVal_sound {x : Slot} {k : Kind} {v : k.T} {u : Value} (h : justVal x k = some v) (hs : SRel m x u) : Cells m.w m.O k u.cells.toList v := by
  unfold justVal at h
  split at h
  · obtain ⟨rfl, rfl⟩ := cast?_some h
    simp only [SRel] at hs; exact hs.cells
  · obtain ⟨rfl, rfl⟩ := cast?_some h
    simp only [SRel] at hs; subst hs; rfl
  · cases h

theorem build_sound (hT : TypesOK P cx) (hR : Rel st a m w0 O0 n) {t : TypeId} {b : Kind} (hk : cx.kd t = .struct b) (ps : Array (Nat × Operand)) {fs : List Slot}
    (h : buildF b (zeroF b) (ps.toList.map fun q => (q.1, evalS st q.2)) = some fs) :
    ∃ us, SRels m b fs us ∧ ∀ (o : Oper), o.op = .build t ps → ∀ w', (execOp a.eval o).run P w' = .ok (.value (.agg (catCells us).toArray)) w' := by
  obtain ⟨fds, h1, h2, h3, h4⟩ := kd_struct hT hk.symm
  obtain ⟨z, h5, h6, h7, _⟩ := h3.zero
  obtain ⟨zs, rfl⟩ := h7 (by simp [aggB])
  have h6' : zs.toList = zcells b := by simpa [Value.cells, zcells] using h6
  obtain ⟨us, h8, h9⟩ := (zero_sound (m := m) b).2 (by simpa [wfB] using h4)
  let sz : Field → Nat := fun f => ((P.info? f.type).map (·.size)).getD 0
  have hsz : ∀ f k, Info P f.type k → sz f = width k := by
    intro f k hi
    obtain ⟨i, z, e1, e2, _⟩ := hi.ex
    simp [sz, e1, e2]
  have hplace : ∀ i o k, fieldOff b i = some (o, k) → (fds.map fun f => (f.offset, sz f))[i]? = some (o, width k) := by
    intro i o k hf
    obtain ⟨fl, e1, e2, e3, e4, e5⟩ := fieldsOK_get h2 hf
    have e1' : fds[i]? = some fl := by simpa using e1
    simp [e1', hsz fl k e4, e2]
  obtain ⟨us', cells', g1, g2, g3⟩ := fill_sound (m := m) hplace (ps.toList.map fun q => (q.1, evalS st q.2)) (ps.toList.map fun q => (q.1, a.eval q.2)) (zeroF b) us zs fs (by simp)
    (fun j hj hj' => by simp; exact evalS_sound hR _) h8 (by rw [h9, h6']) (fun i o k hf => fieldOff_zeroF hf) h
  refine ⟨us', g1, fun o ho w' => ?_⟩
  have hm : (fds.mapM fun (f : Field) => do pure (f.offset, ← sizeOf f.type)).run P w' = .ok (fds.map fun (f : Field) => (f.offset, sz f)) w' := by
    refine run_mapMA fds fun f hf => ?_
    obtain ⟨k, hi⟩ := fieldsOK_all h2 f hf
    simp [hi.sizeOf w', hsz f k hi]
  have hps : (Array.map (fun (x : Nat × Operand) => (x.1, a.eval x.2)) ps).toList = ps.toList.map fun q => (q.1, a.eval q.2) := by simp
  simp only [execOp, ho, Instr.build, Sem.run_bind, h5 w', Result.andThen_ok, run_underlying h1, hm, Value.cells, hps, g3, Sem.run_pure]
  congr 3
  apply Array.toList_inj.1
  rw [g2]

theorem soft_build (hT : TypesOK P cx) (hR : Rel st a m w0 O0 n) (t : TypeId) (ps : Array (Nat × Operand)) (h : softC cx st (.build t ps) C = some r) :
    ∃ s, C s = some r ∧ QOp P (.build t ps) a m s := by
  simp only [softC] at h
  split at h
  · rename_i b hk
    split at h
    · rename_i fs hf
      obtain ⟨us, h1, h2⟩ := build_sound hT hR hk ps hf
      split at h
      · rename_i v hv
        refine ⟨_, h, .run _ (SRel.valI ?_) fun o ho w' hg => h2 o ho w'⟩
        unfold Reg; rw [if_pos (by simp [aggB])]
        refine ⟨_, rfl, ?_⟩
        simp only [Cells]
        exact SRels.cells fs h1 hv fun x hx k v u hv hs => justVal_sound hv hs
      · refine ⟨_, h, .run _ ?_ fun o ho w' hg => h2 o ho w'⟩
        simp only [SRel]
        exact ⟨b, us, rfl, rfl, h1⟩
    · cases h
  · rename_i k e hk
    split at h
    · rename_i hps
      cases hsl : hasSlice e with
      | true =>
        rw [hsl, cond_true] at h
        obtain ⟨te, h2, h3, h4, h5, h6⟩ := kd_arr hT hk.symm
        have hpe : ps = #[] := by apply Array.toList_inj.1; simpa using hps
        subst hpe
        obtain ⟨z, z1, z2, z3, _⟩ := h5.zero
        obtain ⟨cs, rfl⟩ := z3 rfl
        refine ⟨_, h, .run (.agg cs) (by simp only [SRel]; exact z2) fun o ho w' hg => ?_⟩
        simp [execOp, ho, Instr.build, z1 w', run_underlying h2, h4.sizeOf w', Instr.fill, Value.cells]
      | false =>
        rw [hsl, cond_false] at h
        obtain ⟨te, h2, h3, h4, h5, h6⟩ := kd_arr hT hk.symm
        have hpe : ps = #[] := by apply Array.toList_inj.1; simpa using hps
        subst hpe
        obtain ⟨z, z1, z2, z3, _⟩ := h5.zero
        obtain ⟨cs, rfl⟩ := z3 rfl
        have hc := Cells_zero (w := m.w) (O := m.O) (.arr k e) (.inl h6)
        have z2' : cs.toList = zcells (.arr k e) := z2
        refine ⟨_, h, .run (.agg cs) (SRel.valI ?_) fun o ho w' hg => ?_⟩
        · unfold Reg; rw [if_pos (by simp [aggB])]
          exact ⟨cs, rfl, by rw [z2']; simpa [zeroT] using hc⟩
        · simp [execOp, ho, Instr.build, z1 w', run_underlying h2, h4.sizeOf w', Instr.fill, Value.cells]
    · cases h
  · cases h

/-! ### Calls -/
/-- the arguments, as they are handed to a function -/
def ArgsOK (w : World) (O : Nat → Prop) : (ps : List PS) → ArgsT ps → List Value → List Nat → Prop
  | [], _, us, bl => us = [] ∧ bl = []
  | .val k :: ps, v, us, bl => ∃ u us', us = u :: us' ∧ Reg w O k u v.1 ∧ ArgsOK w O ps v.2 us' bl
  | .own ty e :: ps, v, us, bl => ∃ u us' xs b2, us = u :: us' ∧ bl = (blkOf u).toList ++ b2 ∧ w.ownsRow 0 ty (width e) u (List.length v.1) xs ∧ Rows (Cells w O e) xs v.1 ∧ ArgsOK w O ps v.2 us' b2
  | .deep ty e ts :: ps, v, us, bl => ∃ u us' d b2, us = u :: us' ∧ bl = blks d ++ b2 ∧ hdr d = some u ∧ DeepR w O ty e ts d v.1 (fun _ _ => False) ∧ ArgsOK w O ps v.2 us' b2
/-- a result, as it is handed back -/
def ROut (w : World) (O : Nat → Prop) (args : List Value) : (r : RS) → r.T → List Value → List Nat → Prop
  | .val k, v, us, bl => bl = [] ∧ ∃ u, us = [u] ∧ Reg w O k u v
  | .own ty e, l, us, bl => ∃ u xs, us = [u] ∧ bl = (blkOf u).toList ∧ w.ownsRow 0 ty (width e) u (List.length l) xs ∧ Rows (Cells w O e) xs l
  | .deep ty e ts, l, us, bl => ∃ u d, us = [u] ∧ bl = blks d ∧ hdr d = some u ∧ DeepR w O ty e ts d l (fun _ _ => False)
  | .dback i ty e ts a, v, us, bl => ∃ u d b2, args[i]? = some u ∧ bl = blks d ++ b2 ∧ hdr d = some u ∧ DeepR w O ty e ts d v.1 (fun _ _ => False) ∧ ROut w O args a v.2 us b2
  | .pair a b, v, us, bl => ∃ u us' b1 b2, us = u :: us' ∧ bl = b1 ++ b2 ∧ ROut w O args a v.1 [u] b1 ∧ ROut w O args b v.2 us' b2
  | .agg a, v, us, bl => ∃ us', us = [.agg (catCells us').toArray] ∧ ROut w O args a v us' bl
  | .tup a, v, us, bl => ∃ us', us = [.tuple us'.toArray] ∧ ROut w O args a v us' bl
  | .back i ty e a, v, us, bl => ∃ u xs b2, args[i]? = some u ∧ bl = (blkOf u).toList ++ b2 ∧ w.ownsRow 0 ty (width e) u (List.length v.1) xs ∧ Rows (Cells w O e) xs v.1 ∧ ROut w O args a v.2 us b2
  | .nil, _, us, bl => us = [] ∧ bl = []
/-- registers put together -/
def pack : List Nat → List Value → List Value
  | [], us => us
  | 0 :: sh, us => us.headD undef :: pack sh us.tail
  | (n + 1) :: sh, us => .agg (catCells (us.take (n + 1))).toArray :: pack sh (us.drop (n + 1))
def Con (P : Program) (G : World → Prop) (f : Nat) (F : Fn) : Prop :=
  ∀ (v : ArgsT F.ps) (r : F.res.T) (w : World) (args : List Value) (bl : List Nat) (X : Nat → Prop), F.f v = some r → ArgsOK w (fun b => b ∈ bl ∨ X b) F.ps v args bl → bl.Nodup → (∀ b, X b → b < w.heap.size ∧ ¬ b ∈ bl) → (∀ w', Frame0 w (· ∈ bl) w' → G w') →
    Calls P f (pack F.sh args).toArray w fun e w' => ∃ u, e = .returned u ∧ Frame0 w (· ∈ bl) w' ∧ ∃ bl', ROut w' (fun b => b ∈ bl' ∨ X b) args F.res r [u] bl' ∧ bl'.Nodup ∧ ∀ b ∈ bl', w.heap.size ≤ b ∨ b ∈ bl
/-- a function with a body -/
def callable (P : Program) (f : Nat) : Bool := match P.funcs[f]? with
  | some fn => decide (fn.name ≠ "runtime.NumGoroutine") && fn.body.isSome
  | none => false
/-- a function that is handed a pointer to a struct, and turns it: bl are the blocks of the rows in it, g is its own -/
def ConQ (P : Program) (G : World → Prop) (f : Nat) (F : PFn) : Prop :=
  ∀ (v : ArgsT F.ps) (r : (RS.pair F.res (.agg F.out)).T) (w : World) (us : List Value) (g ty : Nat) (bl : List Nat) (X : Nat → Prop), F.f v = some r → ArgsOK w (fun b => b ∈ g :: bl ∨ X b) F.ps v us bl → (g :: bl).Nodup →
    w.heap[g]? = some (.cells (catCells us).toArray ty (0, 0)) → (∀ b, X b → b < w.heap.size ∧ ¬ b ∈ g :: bl) → (∀ w', Frame0 w (· ∈ g :: bl) w' → G w') →
    Calls P f #[.pointer (some ⟨g, 0, none⟩)] w fun e w' => ∃ u, e = .returned u ∧ Frame0 w (· ∈ g :: bl) w' ∧ ∃ u' bl' ty', w'.heap[g]? = some (.cells u'.cells ty' (0, 0)) ∧
      ROut w' (fun b => b ∈ bl' ∨ b = g ∨ X b) [] (.pair F.res (.agg F.out)) r [u, u'] bl' ∧ (g :: bl').Nodup ∧ ∀ b ∈ bl', w.heap.size ≤ b ∨ b ∈ bl
structure FnsOK (P : Program) (G : World → Prop) (cx : Ctx) : Prop where
  con : ∀ f F, cx.fn f = some F → Con P G f F
  call : ∀ f F, cx.fn f = some F → callable P f = true
  more : ∀ f F, F ∈ cx.more f → Con P G f F ∧ callable P f = true
  q : ∀ f F, cx.pf f = some F → ConQ P G f F ∧ callable P f = true

theorem firstF_mem {xs : List Slot} {F : Fn} : ∀ {l : List Fn}, firstF xs l = some F → F ∈ l
  | [], h => by cases h
  | F' :: l, h => by
    simp only [firstF] at h
    cases hb : fitsF F'.ps xs with
    | true => rw [hb, cond_true] at h; cases h; exact .head _
    | false => rw [hb, cond_false] at h; exact .tail _ (firstF_mem h)
theorem FnsOK.pick {P : Program} {G : World → Prop} {cx : Ctx} (h : FnsOK P G cx) {f : Nat} {xs : List Slot} {F : Fn} (hp : pickF cx f xs = some F) : Con P G f F ∧ callable P f = true := by
  unfold pickF at hp
  cases hf : cx.fn f with
  | some F' => rw [hf] at hp; cases hp; exact ⟨h.con f F hf, h.call f F hf⟩
  | none => rw [hf] at hp; exact h.more f F (firstF_mem hp)
theorem run_callFunc {f : Nat} (h : callable P f = true) (args : Array Value) (w' : World) : (callFunc f args).run P w' = .ok (.enter f args) w' := by
  unfold callable at h
  unfold callFunc
  cases hf : P.funcs[f]? with
  | none => simp [hf] at h
  | some fn =>
    simp [hf] at h
    obtain ⟨c, hc⟩ := Option.isSome_iff_exists.1 h.2
    simp [hf, h.1, hc]

/-- what a still result's registers are -/
def cellsOf : (k : Kind) → k.T → List Value
  | .unit, _ => [] | .int ik, v => [.int ik v] | .bool, v => [.bool v] | .str, v => [.string v]
  | .pair a b, v => cellsOf a v.1 ++ cellsOf b v.2 | .struct a, v => cellsOf a v
  | .arr _ e, v => (List.map (cellsOf e) v).flatten | _, _ => []
theorem cellsOf_eq {w : World} {O : Nat → Prop} : ∀ {k : Kind} {cs : List Value} {v : k.T}, flat k = true → Cells w O k cs v → cs = cellsOf k v
  | .unit, cs, v, _, h => h
  | .int ik, cs, v, _, h => h
  | .bool, cs, v, _, h => h
  | .str, cs, v, _, h => h
  | .pair a b, cs, v, hf, h => by
    obtain ⟨c1, c2, rfl, h1, h2⟩ := h
    simp only [flat, Bool.and_eq_true] at hf
    simp only [cellsOf]
    rw [cellsOf_eq hf.1 h1, cellsOf_eq hf.2 h2]
  | .struct a, cs, v, hf, h => cellsOf_eq (k := a) hf h
  | .slice e, cs, v, hf, h => by simp [flat] at hf
  | .arr n e, cs, v, hf, h => by
    have key : ∀ (l : List e.T) (cs : List Value), Rows (Cells w O e) cs l → cs = (List.map (cellsOf e) l).flatten := by
      intro l
      induction l with
      | nil => intro cs h; simpa [Rows] using h
      | cons x l ih =>
        rintro cs ⟨c1, c2, rfl, h1, h2⟩
        rw [cellsOf_eq (k := e) hf h1, ih c2 h2]; simp
    exact key v cs h.2
  | .clo g c, cs, v, hf, h => by simp [flat] at hf
  | .ref a, cs, v, hf, h => by simp [flat] at hf
  | .mpk _ _, cs, v, hf, h => by simp [flat] at hf
  | .mbx _ _, cs, v, hf, h => by simp [flat] at hf
  | .recB _ _ _, cs, v, hf, h => by simp [flat] at hf
  | .err, cs, v, hf, h => by simp [flat] at hf
  | .fnk, cs, v, hf, h => by simp [flat] at hf
theorem Cells.flat_any {w w' : World} {O O' : Nat → Prop} : ∀ {k : Kind} {cs : List Value} {v : k.T}, flat k = true → Cells w O k cs v → Cells w' O' k cs v
  | .unit, cs, v, _, h => h
  | .int ik, cs, v, _, h => h
  | .bool, cs, v, _, h => h
  | .str, cs, v, _, h => h
  | .pair a b, cs, v, hf, h => by
    obtain ⟨c1, c2, rfl, h1, h2⟩ := h
    simp only [flat, Bool.and_eq_true] at hf
    exact ⟨c1, c2, rfl, flat_any hf.1 h1, flat_any hf.2 h2⟩
  | .struct a, cs, v, hf, h => Cells.flat_any (k := a) hf h
  | .slice e, cs, v, hf, h => by simp [flat] at hf
  | .arr n e, cs, v, hf, h => ⟨h.1, h.2.imp fun c x hc => Cells.flat_any (k := e) hf hc⟩
  | .clo g c, cs, v, hf, h => by simp [flat] at hf
  | .ref a, cs, v, hf, h => by simp [flat] at hf
  | .mpk _ _, cs, v, hf, h => by simp [flat] at hf
  | .mbx _ _, cs, v, hf, h => by simp [flat] at hf
  | .recB _ _ _, cs, v, hf, h => by simp [flat] at hf
  | .err, cs, v, hf, h => by simp [flat] at hf
  | .fnk, cs, v, hf, h => by simp [flat] at hf
theorem Reg.flat_any {w w' : World} {O O' : Nat → Prop} {k : Kind} {u : Value} {v : k.T} (hf : flat k = true) (h : Reg w O k u v) : Reg w' O' k u v :=
  Reg.of h.form (h.cells.flat_any hf)
def stillU : (r : RS) → r.T → List Value
  | .val k, v => [regOf k (cellsOf k v)]
  | .own _ _, _ => []
  | .pair a b, v => stillU a v.1 ++ stillU b v.2
  | .agg a, v => [.agg (catCells (stillU a v)).toArray]
  | .tup a, v => [.tuple (stillU a v).toArray]
  | .back _ _ _ _, _ => []
  | .deep _ _ _, _ => []
  | .dback _ _ _ _ _, _ => []
  | .nil, _ => []
theorem scal_flat : ∀ {k : Kind}, scal k = true → flat k = true
  | .pair a b, h => by simp only [scal, Bool.and_eq_true] at h; simp only [flat, Bool.and_eq_true]; exact ⟨scal_flat h.1, scal_flat h.2⟩
  | .struct a, h => by simp only [scal] at h; simp only [flat]; exact scal_flat h
  | .slice _, h | .clo _ _, h | .ref _, h | .mpk _ _, h | .mbx _ _, h | .recB _ _ _, h | .err, h | .fnk, h | .arr _ _, h => by simp [scal] at h
  | .unit, _ | .int _, _ | .bool, _ | .str, _ => rfl
theorem still_out {w : World} {O : Nat → Prop} {args : List Value} : ∀ {r : RS} {v : r.T} {us : List Value} {bl : List Nat}, r.still = true → ROut w O args r v us bl → us = stillU r v ∧ bl = []
  | .val k, v, us, bl, hs, ⟨h1, u, h3, h4⟩ => by
    have h2 : flat k = true := by simp only [RS.still, Bool.and_eq_true] at hs; exact scal_flat hs.1
    refine ⟨?_, h1⟩
    rw [h3, stillU, ← cellsOf_eq h2 h4.cells, h4.form.reg]
  | .own _ _, v, us, bl, hs, h => by simp [RS.still] at hs
  | .pair a b, v, us, bl, hs, ⟨u, us', b1, b2, h1, h2, h3, h4⟩ => by
    simp only [RS.still, Bool.and_eq_true] at hs
    obtain ⟨e1, e2⟩ := still_out hs.1 h3
    obtain ⟨e3, e4⟩ := still_out hs.2 h4
    refine ⟨?_, by rw [h2, e2, e4]; rfl⟩
    rw [h1, stillU, ← e1, ← e3]; rfl
  | .agg a, v, us, bl, hs, h => by simp [RS.still] at hs
  | .tup a, v, us, bl, hs, ⟨us', h1, h2⟩ => by
    obtain ⟨e1, e2⟩ := still_out (r := a) hs h2
    exact ⟨by rw [h1, stillU, ← e1], e2⟩
  | .back _ _ _ _, v, us, bl, hs, h => by simp [RS.still] at hs
  | .deep _ _ _, v, us, bl, hs, h => by simp [RS.still] at hs
  | .dback _ _ _ _ _, v, us, bl, hs, h => by simp [RS.still] at hs
  | .nil, v, us, bl, hs, h => by simp [RS.still] at hs
end
end Go.Fm
