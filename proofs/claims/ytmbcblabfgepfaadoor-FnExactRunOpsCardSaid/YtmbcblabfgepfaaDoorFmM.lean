/- The functional machine: every operation that leaves memory alone. -/
import Derived.Test.YtmbcblabfgepfaaDoorFmMs
set_option autoImplicit true
set_option linter.unusedVariables false
set_option linter.unusedSimpArgs false
set_option linter.unusedSectionVars false
namespace Go.Fm
variable [Strict]

theorem Cells_cellsOf {w : World} {O : Nat → Prop} : ∀ {k : Kind} {v : k.T}, scal k = true → Cells w O k (cellsOf k v) v
  | .unit, v, _ => rfl
  | .int ik, v, _ => rfl
  | .bool, v, _ => rfl
  | .str, v, _ => rfl
  | .pair a b, v, h => by
    simp only [scal, Bool.and_eq_true] at h
    exact ⟨_, _, rfl, Cells_cellsOf h.1, Cells_cellsOf h.2⟩
  | .struct a, v, h => Cells_cellsOf (k := a) h
  | .slice e, v, h => by simp [scal] at h
  | .arr n e, v, h => by simp [scal] at h
  | .clo g c, v, h => by simp [scal] at h
  | .ref a, v, h => by simp [scal] at h
  | .mpk _ _, v, h => by simp [scal] at h
  | .mbx _ _, v, h => by simp [scal] at h
  | .recB _ _ _, v, h => by simp [scal] at h
  | .err, v, h => by simp [scal] at h
  | .fnk, v, h => by simp [scal] at h

section
variable {P : Program} {cx : Ctx} {st : St} {a : Act} {m : Mem} {w0 : World} {O0 : OX} {n : Nat} {R : Type} {C : Slot → Option R} {r : R} {G : World → Prop}

theorem STup_append : ∀ {l l' : List Slot} {us us' : List Value}, STup m l us → STup m l' us' → STup m (l ++ l') (us ++ us')
  | [], l', us, us', h, h' => by simp only [STup] at h; subst h; simpa using h'
  | x :: l, l', us, us', h, h' => by
    simp only [STup] at h
    obtain ⟨u, us2, rfl, h1, h2⟩ := h
    simp only [List.cons_append, STup]
    exact ⟨u, us2 ++ us', rfl, h1, STup_append h2 h'⟩
theorem still_tup : ∀ {r : RS} {v : r.T}, r.still = true → STup m (stillRes r v) (stillU r v)
  | .val k, v, h => by
    simp only [RS.still, Bool.and_eq_true, Bool.or_eq_true, decide_eq_true_eq] at h
    have hc := Cells_cellsOf (w := m.w) (O := m.O) (v := v) h.1
    have hf := Form.of_cells hc h.2
    simp only [stillRes, stillU, STup]
    exact ⟨_, _, rfl, SRel.valI (Reg.of hf.1 (by rw [hf.2]; exact hc)), rfl⟩
  | .own _ _, v, h => by simp [RS.still] at h
  | .pair a b, v, h => by
    simp only [RS.still, Bool.and_eq_true] at h
    simp only [stillRes, stillU]
    exact STup_append (still_tup h.1) (still_tup h.2)
  | .agg a, v, h => by simp [RS.still] at h
  | .tup a, v, h => by
    simp only [stillRes, stillU, STup, SRel]
    exact ⟨_, _, rfl, ⟨_, rfl, still_tup (r := a) h⟩, rfl⟩

theorem args_sound (hR : Rel st a m w0 O0 n) {w' : World} (hg : Grow m.w w') : ∀ (ps : List PS) (xs : List Slot) (us : List Value) (v : ArgsT ps), ps.all (fun p => match p with | .val _ => true | _ => false) = true →
    STup m xs us → argsT st.nodes st.nodes ps xs = some v → ArgsOK w' (fun b => b ∈ ([] : List Nat) ∨ False) ps v us []
  | [], [], us, v, _, hs, h => by simp only [STup] at hs; exact ⟨hs, rfl⟩
  | [], _ :: _, us, v, _, hs, h => by simp [argsT] at h
  | .val k :: ps, [], us, v, _, hs, h => by simp [argsT] at h
  | .val k :: ps, x :: xs, us, v, hall, hs, h => by
    simp only [argsT] at h
    cases hx : asVal st.nodes 8 x k with
    | none => simp [hx] at h
    | some y =>
      cases hr : argsT st.nodes st.nodes ps xs with
      | none => simp [hx, hr] at h
      | some ys =>
        simp [hx, hr] at h; subst h
        simp only [STup] at hs
        obtain ⟨u, us', rfl, h1, h2⟩ := hs
        refine ⟨u, us', rfl, ?_, args_sound hR hg ps xs us' ys (by simpa using hall) h2 hr⟩
        have := asVal_sound (m := m) (O' := (fun b => b ∈ ([] : List Nat) ∨ False)) (nodes := st.nodes) (fun q nd hq => by rw [hR.nodes]; exact hq) hR.ok.node (fun b hb => by simp at hb) 8 x k y u hx h1 (fun q _ b _ => by simp)
        exact this.keep ⟨fun b hb _ => hg.block b hb, fun b _ hb => hb⟩
  | .own _ _ :: ps, xs, us, v, hall, hs, h => by simp at hall
  | .deep _ _ _ :: ps, xs, us, v, hall, hs, h => by simp at hall

theorem STup_eval (hR : Rel st a m w0 O0 n) : ∀ (l : List Operand), STup m (l.map (evalS st)) (l.map a.eval)
  | [] => by simp [STup]
  | x :: l => by
    simp only [List.map_cons, STup]
    exact ⟨_, _, rfl, evalS_sound hR x, STup_eval hR l⟩

theorem lendBox_sound {nodes : Nat → Option Node} {x : Slot} {u : Value} (h : SRel m x u) : SRel m (lendBox nodes x) u := by
  unfold lendBox
  split
  · split
    · simp only [SRel] at h ⊢
      exact h
    · exact h
  · exact h
theorem lendBoxes_sound {nodes : Nat → Option Node} : ∀ {l : List Slot} {us : List Value}, STup m l us → STup m (l.map (lendBox nodes)) us
  | [], us, h => by simpa only [List.map_nil] using h
  | x :: l, us, h => by
    simp only [STup, List.map_cons] at h ⊢
    obtain ⟨u, us', h1, h2, h3⟩ := h
    exact ⟨u, us', h1, lendBox_sound h2, lendBoxes_sound h3⟩
theorem Frame0.grow {w w' : World} (h : Frame0 w (· ∈ ([] : List Nat)) w') : Grow w w' := ⟨h.os, h.tape, h.output, h.size, fun b hb => h.block b hb (by simp)⟩

theorem Frame0.grow' {w w' w'' : World} {O : Nat → Prop} (h : Frame0 w O w') (hg : Grow w' w'') : Frame0 w O w'' :=
  ⟨hg.os.trans h.os, ⟨hg.tape.1.trans h.tape.1, fun hs => Nat.le_trans (h.tape.2 hs) (hg.tape.2 hs)⟩, hg.output.trans h.output, Nat.le_trans h.size hg.size, fun b hb ho => (hg.block b (Nat.lt_of_lt_of_le hb h.size)).trans (h.block b hb ho)⟩
theorem soft_call (hF : FnsOK P G cx) (hG : ∀ w', Frame0 w0 O0 w' → G w') (hR : Rel st a m w0 O0 n) (f : Nat) (args : Array Operand) (ts : Array TypeId) (hs : soft cx (.call { callee := .value (.func f), args := args, argTypes := ts }) = true)
    (h : softC cx st (.call { callee := .value (.func f), args := args, argTypes := ts }) C = some r) :
    ∃ s, C s = some r ∧ QOp P (.call { callee := .value (.func f), args := args, argTypes := ts }) a m s := by
  simp only [softC] at h
  simp only [soft] at hs
  split at h
  · rename_i F hf
    rw [hf] at hs
    simp only [Bool.and_eq_true] at hs
    have hsh : F.sh = [] := by
      cases hl : F.sh with
      | nil => rfl
      | cons x l => rw [hl] at h; cases h
    rw [hsh] at h
    simp only [List.isEmpty_nil, cond_true] at h
    split at h
    · rename_i v hv
      obtain ⟨res, h1, h2⟩ := Option.bind_eq_some_iff.1 h
      have ht := still_tup (m := m) (v := res) hs.1
      split at h2
      · rename_i x hx
        rw [hx] at ht
        simp only [STup] at ht
        obtain ⟨u, us', h3, h4, h5⟩ := ht
        refine ⟨x, h2, u, h4, fun o ho w' hg => ?_⟩
        have ha := args_sound hR hg F.ps _ _ v hs.2 (lendBoxes_sound (STup_eval hR args.toList)) hv
        have hc := hF.con f F hf v res w' _ [] (fun _ => False) h1 ha List.nodup_nil (fun b hb => hb.elim) (fun w'' hf' => hG w'' (hR.ok.frame.grow' (hg.trans hf'.grow)))
        unfold Oper.quietAt
        have hrun : (execOp a.eval o).run P w' = .ok (.enter f (args.map a.eval)) w' := by
          simp [execOp, ho, resolve, Act.eval, Deferred.ofValue, invoke, run_callFunc (hF.call f F hf)]
        rw [hrun]
        refine ⟨rfl, ?_⟩
        have he : (pack F.sh (List.map a.eval args.toList)).toArray = args.map a.eval := by rw [hsh]; apply Array.toList_inj.1; simp [pack]
        rw [he] at hc
        refine hc.mono ?_
        rintro e w'' ⟨u', rfl, hfr, bl', hro, _, _⟩
        refine ⟨?_, hfr.grow⟩
        obtain ⟨e1, _⟩ := still_out hs.1 hro
        rw [h3] at e1
        simp at e1
        rw [e1.1]
      · cases h2
    · cases h
  · cases h

theorem softC_sound (hT : TypesOK P cx) (hF : FnsOK P G cx) (hG : ∀ w', Frame0 w0 O0 w' → G w') (hR : Rel st a m w0 O0 n) (op : Op) (hs : soft cx op = true) (h : softC cx st op C = some r) : ∃ s, C s = some r ∧ QOp P op a m s := by
  cases op with
  | move x => exact ⟨_, h, soft_move hR x⟩
  | assign x => exact ⟨_, h, soft_assign hR x⟩
  | pick c x y => exact soft_pick hR c x y h
  | build t ps => exact soft_build hT hR t ps h
  | load t p => exact soft_load hT hR t p h
  | fieldAddr t p f => exact soft_fieldAddr hT hR t p f h
  | field t x f => exact soft_field hT hR t x f h
  | indexAddr t x i => exact soft_indexAddr hT hR t x i h
  | index t x i => exact soft_index hT hR t x i h
  | slice t x lo hi mx => exact soft_slice hT hR t x lo hi mx h
  | binOp op t x y yt => exact soft_binOp hT hR op t x y yt h
  | convert s d x => exact soft_convert2 hT hR s d x h
  | lookup t x i ok => exact soft_lookup hT hR t x i ok h
  | unOp op t x => exact soft_unOp hR op t x h
  | nilCheck x => exact soft_nilCheck hR x h
  | extract x i => exact soft_extract hR x i h
  | call c =>
    obtain ⟨cal, args, ts⟩ := c
    cases cal with
    | value f =>
      cases f with
      | func f => exact soft_call hF hG hR f args ts hs h
      | _ => simp [soft] at hs
    | invoke => simp [soft] at hs
    | builtin b =>
      cases b with
      | len => exact soft_len hT hR args ts h
      | max => exact soft_max hR args ts h
      | min => exact soft_min hR args ts h
      | _ => simp [soft] at hs
  | _ => simp [soft] at hs
end
end Go.Fm
