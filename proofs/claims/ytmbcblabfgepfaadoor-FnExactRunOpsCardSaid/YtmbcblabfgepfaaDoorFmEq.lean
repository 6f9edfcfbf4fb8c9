/- The functional machine: more operators. -/
import Derived.Test.YtmbcblabfgepfaaDoorFmL
import Derived.WideLaws
import Derived.Laws.StructEq
import Derived.ChangeKeysEq
set_option autoImplicit true
set_option linter.unusedVariables false
set_option linter.unusedSimpArgs false
set_option linter.unusedSectionVars false
namespace Go.Fm
variable [Strict]

section
variable {P : Program} {cx : Ctx} {st : St} {a : Act} {m : Mem} {w0 : World} {O0 : OX} {n : Nat} {R : Type} {C : Slot → Option R} {r : R}

theorem boolS_sound {x : Slot} {b : Bool} {u : Value} (h : boolS x = some b) (hs : SRel m x u) : u = .bool b := by
  unfold boolS at h
  split at h
  · cases h; simp only [SRel] at hs; exact hs.bool_inv
  · rename_i p d; cases h; simpa only [SRel] using hs
  · cases h

theorem run_eqBool {t : TypeId} (hu : P.underlying t = some .bool) (d : Nat) (b1 b2 : Bool) (w' : World) : (Op.equalIn (d + 1) t (.bool b1) (.bool b2)).run P w' = .ok (decide (b1 = b2)) w' := by
  simp [Op.equalIn, run_underlying hu]; rfl
theorem part_of (hT : TypesOK P cx) {t : TypeId} {k : Kind} (hk : cx.kd t = k) (hi : Info P t k) (hw : width k ≠ 0) (cs : List Value) (o : Nat) (c1 c2 : List Value) (hc : cs.drop o = c1 ++ c2) (hl : c1.length = width k) (w' : World) :
    (part t cs.toArray o).run P w' = .ok (regOf k c1) w' ∧ oneB k = true := by
  subst hk
  have h0 : cx.kd t ≠ .unit := fun e => hw (by rw [e]; rfl)
  have hty := hT.ty t h0
  have ho := tyOK_oneB hty
  have hlen : o + width (cx.kd t) ≤ cs.length := by
    have := congrArg List.length hc
    simp at this; omega
  have := run_part hty ho hi cs o hlen w'
  rw [hc, List.take_append, List.take_of_length_le (by omega), hl, Nat.sub_self, List.take_zero, List.append_nil] at this
  exact ⟨this, ho⟩

theorem eq_fields {d : Nat} (hT : TypesOK P cx)
    (ih : ∀ t, eqB P cx.kd d t = true → ∀ d', d ≤ d' → ∀ (w w' : World) (O : Nat → Prop) (u v : Value) (x y : (cx.kd t).T), Reg w O (cx.kd t) u x → Reg w O (cx.kd t) v y → (Op.equalIn d' t u v).run P w' = .ok (eqT (cx.kd t) x y) w')
    {d' : Nat} (hd : d ≤ d') (w w' : World) (O : Nat → Prop) (cs ds : List Value) : ∀ (fs : List Field) (b : Kind) (o : Nat) (x y : b.T), fieldsOK P cx.kd fs b o = true → (fs.all fun f => !(f.name == "_") && eqB P cx.kd d f.type) = true →
      Cells w O b (cs.drop o) x → Cells w O b (ds.drop o) y → (Op.eqFields d' cs.toArray ds.toArray fs).run P w' = .ok (eqT b x y) w' := by
  have one : ∀ (f : Field) (k : Kind) (x y : k.T) (c1 c2 d1 d2 : List Value), cx.kd f.type = k → Info P f.type k → width k ≠ 0 → (!(f.name == "_") && eqB P cx.kd d f.type) = true → cs.drop f.offset = c1 ++ c2 → ds.drop f.offset = d1 ++ d2 →
      Cells w O k c1 x → Cells w O k d1 y → ∀ fs, (Op.eqFields d' cs.toArray ds.toArray (f :: fs)).run P w' = if eqT k x y = true then (Op.eqFields d' cs.toArray ds.toArray fs).run P w' else .ok false w' := by
    intro f k x y c1 c2 d1 d2 hk hi hw hf h1 h2 h3 h4 fs
    simp only [Bool.and_eq_true, Bool.not_eq_true', beq_eq_false_iff_ne, ne_eq] at hf
    obtain ⟨p1, ho⟩ := part_of hT hk hi hw cs f.offset c1 c2 h1 h3.length w'
    obtain ⟨p2, _⟩ := part_of hT hk hi hw ds f.offset d1 d2 h2 h4.length w'
    have g1 := Form.of_cells h3 (by simpa [oneB, Bool.or_eq_true] using ho)
    have g2 := Form.of_cells h4 (by simpa [oneB, Bool.or_eq_true] using ho)
    subst hk
    have he := ih f.type hf.2 d' hd w w' O _ _ x y (Reg.of g1.1 (by rw [g1.2]; exact h3)) (Reg.of g2.1 (by rw [g2.2]; exact h4))
    rw [Op.eqFields]
    simp only [if_pos hf.1, Sem.run_bind, p1, p2, he, Result.andThen_ok]
    cases eqT (cx.kd f.type) x y <;> simp
  intro fs
  induction fs with
  | nil =>
    intro b o x y h
    cases b <;> simp [fieldsOK] at h
    intro _ _ _; simp [Op.eqFields, eqT]
  | cons f fs ihf =>
    intro b o x y h hall hx hy
    simp only [List.all_cons, Bool.and_eq_true] at hall
    cases fs with
    | nil =>
      have key : ∀ (k : Kind) (x y : k.T), f.offset = o → cx.kd f.type = k → Info P f.type k → width k ≠ 0 → Cells w O k (cs.drop o) x → Cells w O k (ds.drop o) y → (Op.eqFields d' cs.toArray ds.toArray [f]).run P w' = .ok (eqT k x y) w' := by
        intro k x y h1 h2 h3 h4 h5 h6
        rw [one f k x y (cs.drop o) [] (ds.drop o) [] h2 h3 h4 (by simpa using hall.1) (by rw [h1]; simp) (by rw [h1]; simp) h5 h6 []]
        cases eqT k x y <;> simp [Op.eqFields]
      cases b <;> simp only [fieldsOK, Bool.and_eq_true, decide_eq_true_eq, Bool.false_eq_true] at h <;> (first | exact h.elim | exact key _ x y h.1.1.1.1 h.1.1.1.2 (Info.of h.1.1.2) h.1.2 hx hy | exact key _ x y h.1.1.1 h.1.1.2 (Info.of h.1.2) h.2 hx hy)
    | cons g l =>
      cases b with
      | pair a b =>
        simp only [fieldsOK, Bool.and_eq_true, decide_eq_true_eq] at h
        obtain ⟨⟨⟨⟨h1, h2⟩, h3⟩, h4⟩, h5⟩ := h
        obtain ⟨c1, c2, e1, e2, e3⟩ := hx
        obtain ⟨d1, d2, e4, e5, e6⟩ := hy
        have n1 : cs.drop (o + width a) = c2 := by
          rw [← List.drop_drop, e1, List.drop_append, e2.length]; simp [e2.length]
        have n2 : ds.drop (o + width a) = d2 := by
          rw [← List.drop_drop, e4, List.drop_append, e5.length]; simp [e5.length]
        rw [one f a x.1 y.1 c1 c2 d1 d2 h2 (Info.of h3) h4 (by simpa using hall.1) (by rw [h1]; exact e1) (by rw [h1]; exact e4) e2 e5 (g :: l)]
        rw [ihf b (o + width a) x.2 y.2 h5 (by simpa using hall.2) (by rw [n1]; exact e3) (by rw [n2]; exact e6)]
        simp only [eqT]
        cases eqT a x.1 y.1 <;> simp
      | _ => simp [fieldsOK] at h
theorem eq_sound (hT : TypesOK P cx) : ∀ (d : Nat) (t : TypeId), eqB P cx.kd d t = true → ∀ d', d ≤ d' → ∀ (w w' : World) (O : Nat → Prop) (u v : Value) (x y : (cx.kd t).T), Reg w O (cx.kd t) u x → Reg w O (cx.kd t) v y → (Op.equalIn d' t u v).run P w' = .ok (eqT (cx.kd t) x y) w'
  | 0, t, h => by simp [eqB] at h
  | d + 1, t, h => by
    intro d' hd w w' O u v x y hu hv
    obtain ⟨d'', rfl⟩ : ∃ d'', d' = d'' + 1 := ⟨d' - 1, by omega⟩
    simp only [eqB] at h
    generalize hk : cx.kd t = k at *
    split at h
    · rename_i k1 k2 hu1
      rw [hu.int_inv, hv.int_inv]
      simp [Op.equalIn, run_underlying hu1, eqT]; rfl
    · rename_i hu1
      rw [hu.bool_inv, hv.bool_inv]
      simp [Op.equalIn, run_underlying hu1, eqT]; rfl
    · rename_i hu1
      rw [hu.str_inv, hv.str_inv]
      have : ((x : ByteArray) == y) = decide (Eq (α := ByteArray) x y) := by
        rw [beq_toListBytes, Bool.eq_iff_iff]; simp [toList_inj]
      simp [Op.equalIn, run_underlying hu1, eqT]; exact this
    · rename_i n0 te k0 e hu1
      obtain ⟨te', h1, h2, h3, h4, h5⟩ := kd_arr hT hk.symm
      rw [hu1] at h1
      simp only [Option.some.injEq, TypeDesc.array.injEq] at h1
      obtain ⟨rfl, rfl⟩ := h1
      unfold Reg at hu hv
      rw [if_pos (by simp [aggB])] at hu hv
      obtain ⟨cs, rfl, hx1, hx⟩ := hu
      obtain ⟨ds, rfl, hy1, hy⟩ := hv
      obtain ⟨i, z0, hi, _⟩ := h3.ex
      rw [run_equalIn_array (P := P) w' d'' cs ds hu1 hi]
      have hw : width e ≠ 0 := by
        have ht := hT.ty t (by rw [hk]; simp)
        unfold tyOK at ht
        rw [hu1, hk] at ht
        simp only [Bool.and_eq_true, decide_eq_true_eq] at ht
        exact ht.1.2
      have hcell : P.cellsOf te = width e := by have := h3.ex; obtain ⟨i', z, e1, e2, _⟩ := this; simp [Program.cellsOf, e1, e2]
      have key : ∀ (k j : Nat) (l1 l2 : List e.T), l1.length = k → l2.length = k → Rows (Cells w O e) (cs.toList.drop (j * width e)) l1 → Rows (Cells w O e) (ds.toList.drop (j * width e)) l2 →
          (Op.eqItems d'' te (width e) cs ds (List.range' j k)).run P w' = .ok (eqL (eqT e) l1 l2) w' := by
        intro k
        induction k with
        | zero =>
          intro j l1 l2 e1 e2 _ _
          have := List.eq_nil_of_length_eq_zero e1; subst this
          have := List.eq_nil_of_length_eq_zero e2; subst this
          simp [Op.eqItems, eqL]
        | succ k ih =>
          intro j l1 l2 e1 e2 r1 r2
          cases l1 with
          | nil => simp at e1
          | cons x1 l1 =>
            cases l2 with
            | nil => simp at e2
            | cons x2 l2 =>
              obtain ⟨c1, c2, f1, f2, f3⟩ := r1
              obtain ⟨d1, d2, f4, f5, f6⟩ := r2
              obtain ⟨p1, ho⟩ := part_of hT h2 h3 hw cs.toList (j * width e) c1 c2 f1 f2.length w'
              obtain ⟨p2, _⟩ := part_of hT h2 h3 hw ds.toList (j * width e) d1 d2 f4 f5.length w'
              have g1 := Form.of_cells f2 (by simpa [oneB, Bool.or_eq_true] using ho)
              have g2 := Form.of_cells f5 (by simpa [oneB, Bool.or_eq_true] using ho)
              subst h2
              have he := eq_sound hT d te h d'' (by omega) w w' O _ _ x1 x2 (Reg.of g1.1 (by rw [g1.2]; exact f2)) (Reg.of g2.1 (by rw [g2.2]; exact f5))
              have n1 : cs.toList.drop ((j + 1) * width (cx.kd te)) = c2 := by
                rw [Nat.add_mul, Nat.one_mul, ← List.drop_drop, f1, List.drop_append, f2.length]; simp [f2.length]
              have n2 : ds.toList.drop ((j + 1) * width (cx.kd te)) = d2 := by
                rw [Nat.add_mul, Nat.one_mul, ← List.drop_drop, f4, List.drop_append, f5.length]; simp [f5.length]
              have := ih (j + 1) l1 l2 (by simpa using e1) (by simpa using e2) (by rw [n1]; exact f3) (by rw [n2]; exact f6)
              simp only [List.range'_succ, Op.eqItems, Sem.run_bind]
              simp only [Array.toArray_toList] at p1 p2
              rw [p1]
              simp only [Result.andThen_ok, p2, he, eqL]
              cases eqT (cx.kd te) x1 x2
              · simp
              · simpa using this
      rw [hcell, List.range_eq_range']
      exact key _ 0 x y hx1 hy1 (by simpa using hx) (by simpa using hy)
    · rename_i fs b hu1
      simp only [Bool.and_eq_true, Bool.not_eq_true'] at h
      obtain ⟨fs', h1, h2, _⟩ := kd_struct hT hk.symm
      rw [hu1] at h1
      simp only [Option.some.injEq, TypeDesc.struct.injEq] at h1
      subst h1
      unfold Reg at hu hv
      rw [if_pos (by simp [aggB])] at hu hv
      obtain ⟨cs, rfl, hx⟩ := hu
      obtain ⟨ds, rfl, hy⟩ := hv
      have hf : P.fieldsOf t = fs := by simp [Program.fieldsOf, hu1]
      rw [run_equalIn_struct (P := P) w' d'' t cs ds (by rw [hf]; exact hu1) h.1, hf]
      have := eq_fields hT (eq_sound hT d) (d' := d'') (by omega) w w' O cs.toList ds.toList fs.toList b 0 x y h2 (by simpa using h.2) (by simpa [Cells] using hx) (by simpa [Cells] using hy)
      simpa [eqT] using this
    · cases h
theorem eqL_iff {α : Type} {f : α → α → Bool} (hf : ∀ a b, f a b = true ↔ a = b) : ∀ {l m : List α}, eqL f l m = true ↔ l = m
  | [], [] => by simp [eqL]
  | [], _ :: _ => by simp [eqL]
  | _ :: _, [] => by simp [eqL]
  | a :: l, b :: m => by simp only [eqL, Bool.and_eq_true, hf, eqL_iff hf, List.cons.injEq]
theorem eqT_iff : ∀ {k : Kind} {a b : k.T}, scal k = true → (eqT k a b = true ↔ a = b)
  | .unit, _, _, _ => by simp [eqT]
  | .int _, a, b, _ => by simp only [eqT]; exact decide_eq_true_iff
  | .bool, a, b, _ => by simp only [eqT]; exact decide_eq_true_iff
  | .str, a, b, _ => by simp only [eqT]; exact decide_eq_true_iff
  | .pair k l, a, b, h => by
    simp only [scal, Bool.and_eq_true] at h
    simp only [eqT, Bool.and_eq_true, eqT_iff h.1, eqT_iff h.2]
    constructor
    · rintro ⟨h1, h2⟩; exact Prod.ext h1 h2
    · rintro rfl; exact ⟨rfl, rfl⟩
  | .struct k, a, b, h => by simp only [scal] at h; simp only [eqT]; exact eqT_iff (k := k) h
  | .slice _, _, _, h | .clo _ _, _, _, h | .ref _, _, _, h | .mpk _ _, _, _, h | .mbx _ _, _, _, h | .recB _ _ _, _, _, h | .err, _, _, h | .fnk, _, _, h | .arr _ _, _, _, h => by simp [scal] at h
theorem moreB_sound (hT : TypesOK P cx) {op : BinOp} {t : TypeId} {x y : Slot} {xo yo : Operand} {u v : Value} (hx : SRel m x u) (hy : SRel m y v) (h : moreB cx op t x y C = some r) :
    ∃ s z, C s = some r ∧ SRel m s z ∧ ∀ w', (eqGuard op t xo yo u v).run P w' = .ok () w' ∧ (binOp op t u v).run P w' = .ok z w' := by
  unfold moreB at h
  split at h
  · rename_i b1 b2 h1 h2
    have e1 := boolS_sound h1 hx
    have e2 := boolS_sound h2 hy
    subst e1; subst e2
    split at h
    · rename_i hk
      have hu : P.underlying t = some .bool := by
        have := hT.ty t (by rw [hk]; simp)
        unfold tyOK at this
        rw [hk] at this
        split at this <;> simp_all
      split at h
      · exact ⟨_, .bool (decide (b1 = b2)), h, SRel.prop' _ _ _ rfl, fun w' => ⟨run_eqGuard (by simp) (by simp), by
          have := run_eqBool hu 9999 b1 b2 w'
          simp only [binOp, Op.equal, Sem.run_bind, show Op.maxDepth = 9999 + 1 from rfl, this, Result.andThen_ok]; rfl⟩⟩
      · exact ⟨_, .bool (decide (¬ b1 = b2)), h, SRel.prop' _ _ _ rfl, fun w' => ⟨run_eqGuard (by simp) (by simp), by
          have := run_eqBool hu 9999 b1 b2 w'
          simp only [binOp, Op.equal, Sem.run_bind, show Op.maxDepth = 9999 + 1 from rfl, this, Result.andThen_ok]
          cases b1 <;> cases b2 <;> rfl⟩⟩
      · cases h
    · cases h
  · split at h
    · rename_i k a1 k' b1 _
      simp only [SRel] at hx hy
      rw [hx.int_inv, hy.int_inv]
      have hg : ∀ w', (eqGuard op t xo yo (.int k a1) (.int k' b1)).run P w' = .ok () w' := fun w' => run_eqGuard (by simp) (by simp)
      split at h
      · split at h
        · rename_i hk; subst hk
          split at h
          · cases h
          · rename_i hb
            exact ⟨_, _, h, SRel.int _ _, fun w' => ⟨hg w', by simp [binOp, Op.intDiv, hb]⟩⟩
        · cases h
      · split at h
        · rename_i hk; subst hk
          split at h
          · cases h
          · rename_i hb
            exact ⟨_, _, h, SRel.int _ _, fun w' => ⟨hg w', by simp [binOp, Op.intDiv, hb]⟩⟩
        · cases h
      · split at h
        · rename_i hk; subst hk
          exact ⟨_, _, h, SRel.int _ _, fun w' => ⟨hg w', by simp [binOp, Op.intBits, bitsI]⟩⟩
        · cases h
      · split at h
        · rename_i hk; subst hk
          exact ⟨_, _, h, SRel.int _ _, fun w' => ⟨hg w', by simp [binOp, Op.intBits, bitsI]⟩⟩
        · cases h
      · split at h
        · rename_i hk; subst hk
          exact ⟨_, _, h, SRel.int _ _, fun w' => ⟨hg w', by simp [binOp, Op.intBits, bitsI]⟩⟩
        · cases h
      · split at h
        · rename_i hk; subst hk
          exact ⟨_, _, h, SRel.int _ _, fun w' => ⟨hg w', by simp [binOp, Op.intBits, bitsI]⟩⟩
        · cases h
      · split at h
        · cases h
        · rename_i hb
          exact ⟨_, _, h, SRel.int _ _, fun w' => ⟨hg w', by simp [binOp, Op.shift, shiftI, hb]⟩⟩
      · split at h
        · cases h
        · rename_i hb
          exact ⟨_, _, h, SRel.int _ _, fun w' => ⟨hg w', by simp [binOp, Op.shift, shiftI, hb]⟩⟩
      · cases h
    · cases he0 : (cx.eqs t && aggB (cx.kd t)) with
      | false => rw [he0] at h; cases h
      | true =>
        rw [he0, cond_true] at h
        obtain ⟨he, hag0⟩ := (Bool.and_eq_true _ _).mp he0
        split at h
        · rename_i a1 b1 h1 h2
          have r1 := justVal_form h1 hx
          have r2 := justVal_form h2 hy
          have ht := hT.eqs t he
          simp only [eqTop, Bool.and_eq_true, Bool.not_eq_true'] at ht
          have hag : ∃ cs ds, u = .agg cs ∧ v = .agg ds := by
            unfold Reg at r1 r2
            rw [if_pos hag0] at r1 r2
            obtain ⟨cs, e1, _⟩ := r1
            obtain ⟨ds, e2, _⟩ := r2
            exact ⟨cs, ds, e1, e2⟩
          obtain ⟨cs, ds, rfl, rfl⟩ := hag
          have heq : ∀ w', (Op.equal t (.agg cs) (.agg ds)).run P w' = .ok (eqT (cx.kd t) a1 b1) w' := fun w' => eq_sound hT 40 t ht.2 Op.maxDepth (by decide) m.w w' m.O _ _ a1 b1 r1 r2
          have hg : ∀ w', (eqGuard op t xo yo (.agg cs) (.agg ds)).run P w' = .ok () w' := fun w' => by
            unfold eqGuard
            cases op <;> simp [ht.1]
          split at h
          · exact ⟨_, _, h, SRel.bool _, fun w' => ⟨hg w', by simp [binOp, heq w']⟩⟩
          · exact ⟨_, _, h, SRel.bool _, fun w' => ⟨hg w', by simp [binOp, heq w']⟩⟩
          · cases h
        · cases h
theorem nilE_some {t : Nat} {y : Operand} {x : Slot} {b : Bool} (h : nilE cx t y x = some b) : y = .const .nilIface ∧ x = .val .err b ∧ cx.kd t = .err := by
  unfold nilE at h
  split at h
  · split at h
    · rename_i hk
      obtain rfl := Option.some.inj h
      exact ⟨rfl, rfl, hk⟩
    · cases h
  · cases h
theorem kd_err (hT : TypesOK P cx) {t : TypeId} (hk : Kind.err = cx.kd t) : ∃ ms, P.underlying t = some (.interface ms) := by
  have h := hT.ty t (by rw [← hk]; simp)
  unfold tyOK at h
  rw [← hk] at h
  cases hu : P.underlying t with
  | none => simp [hu] at h
  | some d => cases d <;> simp [hu] at h <;> exact ⟨_, rfl⟩
theorem run_eqn {t : TypeId} {ms : Array (String × TypeId)} (h : P.underlying t = some (.interface ms)) (w : World) :
    (binOp .eql t .nilIface .nilIface).run P w = .ok (.bool true) w ∧ (binOp .neq t .nilIface .nilIface).run P w = .ok (.bool false) w ∧
    ∀ u x, (binOp .eql t (.iface u x) .nilIface).run P w = .ok (.bool false) w ∧ (binOp .neq t (.iface u x) .nilIface).run P w = .ok (.bool true) w := by
  have h' : P.underlying t = some (.interface (P.methodsAt t)) := by rw [h]; simp [Program.methodsAt, h]
  exact ⟨run_eql_nil_nil w t h', run_neq_nil_nil w t h', fun u x => ⟨run_eql_held_nil w t u x h', run_neq_held_nil w t u x h'⟩⟩
theorem soft_binOp (hT : TypesOK P cx) (hR : Rel st a m w0 O0 n) (op : BinOp) (t : TypeId) (x y : Operand) (yt : TypeId) (h : softC cx st (.binOp op t x y yt) C = some r) :
    ∃ s, C s = some r ∧ QOp P (.binOp op t x y yt) a m s := by
  have hx := evalS_sound hR x
  have hy := evalS_sound hR y
  simp only [softC] at h
  split at h
  · rename_i s1 s2 hs
    unfold addS at hs
    split at hs
    case h_2 => cases hs
    rename_i s1' s2' hs1 hs2
    simp only [Option.some.injEq, Prod.mk.injEq] at hs
    obtain ⟨rfl, rfl⟩ := hs
    rw [hs1] at hx; rw [hs2] at hy
    simp only [SRel] at hx hy
    split at h
    · rename_i hle
      refine ⟨_, h, .run _ (SRel.str _) fun o ho w' hg => run_binOp ho hx.str_inv hy.str_inv (run_eqGuard (by simp) (by simp)) ?_⟩
      have hmax : IntKind.i64.max = 9223372036854775807 := by decide
      have : ¬ ((ByteArray.size s1' : Int) + (ByteArray.size s2' : Int) > 9223372036854775807) := by omega
      simp [binOp, Op.stringOp, hmax, catS_eq]
      omega
    · cases h
  · split at h
    · rename_i s hs
      obtain ⟨h1, h2, z, h3, h4⟩ := binS_sound (P := P) op t hx hy hs
      exact ⟨s, h, .run z h3 fun o ho w' hg => run_binOp ho rfl rfl (run_eqGuard h1 h2) (h4 w')⟩
    · split at h
      · rename_i b hb
        obtain ⟨rfl, hev, hk⟩ := nilE_some hb
        rw [hev] at hx
        simp only [SRel] at hx
        unfold Reg at hx
        rw [if_neg (by simp [aggB])] at hx
        obtain ⟨_, u, hu, hv⟩ := hx
        obtain ⟨ms, hms⟩ := kd_err hT hk.symm
        have hu : a.eval x = u := by simpa using hu
        have hy0 : a.eval (.const .nilIface) = .nilIface := rfl
        rcases hv with ⟨rfl, rfl⟩ | ⟨rfl, tt, p, rfl⟩
        · have hg0 : ∀ w', (eqGuard op t x (.const .nilIface) .nilIface .nilIface).run P w' = .ok () w' := fun w' => by rw [eqGuard_nil_constR]; rfl
          cases op <;> (try (cases h; done))
          · exact ⟨_, h, .run (.bool true) (by simp only [SRel]; exact Reg.bool _) fun o ho w' hg => run_binOp ho hu hy0 (hg0 w') (run_eqn hms w').1⟩
          · exact ⟨_, h, .run (.bool false) (by simp only [SRel]; exact Reg.bool _) fun o ho w' hg => run_binOp ho hu hy0 (hg0 w') (run_eqn hms w').2.1⟩
        · have hg0 : ∀ w', (eqGuard op t x (.const .nilIface) (.iface tt p) .nilIface).run P w' = .ok () w' := fun w' => run_eqGuard (by simp) (by simp)
          cases op <;> (try (cases h; done))
          · exact ⟨_, h, .run (.bool false) (by simp only [SRel]; exact Reg.bool _) fun o ho w' hg => run_binOp ho hu hy0 (hg0 w') ((run_eqn hms w').2.2 tt p).1⟩
          · exact ⟨_, h, .run (.bool true) (by simp only [SRel]; exact Reg.bool _) fun o ho w' hg => run_binOp ho hu hy0 (hg0 w') ((run_eqn hms w').2.2 tt p).2⟩
      · obtain ⟨s, z, h1, h2, h3⟩ := moreB_sound (P := P) hT hx hy h
        exact ⟨s, h1, .run z h2 fun o ho w' hg => run_binOp ho rfl rfl (h3 w').1 (h3 w').2⟩

theorem soft_max (hR : Rel st a m w0 O0 n) (args : Array Operand) (ts : Array TypeId) (h : softC cx st (.call { callee := .builtin .max, args := args, argTypes := ts }) C = some r) :
    ∃ s, C s = some r ∧ QOp P (.call { callee := .builtin .max, args := args, argTypes := ts }) a m s := by
  simp only [softC] at h
  split at h
  · rename_i x y ha
    have : args = #[x, y] := by apply Array.toList_inj.1; simpa using ha
    subst this
    have hx := evalS_sound hR x
    have hy := evalS_sound hR y
    split at h
    · rename_i k v1 k' v2 e1 e2
      rw [e1] at hx; rw [e2] at hy; simp only [SRel] at hx hy
      refine ⟨_, h, .run _ (SRel.int _ _) fun o ho w' hg => ?_⟩
      simp [execOp, ho, resolve, invoke, builtin, hx.int_inv, hy.int_inv, Builtin.max_, Builtin.max2]
    · cases h
  · cases h
theorem soft_min (hR : Rel st a m w0 O0 n) (args : Array Operand) (ts : Array TypeId) (h : softC cx st (.call { callee := .builtin .min, args := args, argTypes := ts }) C = some r) :
    ∃ s, C s = some r ∧ QOp P (.call { callee := .builtin .min, args := args, argTypes := ts }) a m s := by
  simp only [softC] at h
  split at h
  · rename_i x y ha
    have : args = #[x, y] := by apply Array.toList_inj.1; simpa using ha
    subst this
    have hx := evalS_sound hR x
    have hy := evalS_sound hR y
    split at h
    · rename_i k v1 k' v2 e1 e2
      rw [e1] at hx; rw [e2] at hy; simp only [SRel] at hx hy
      refine ⟨_, h, .run _ (SRel.int _ _) fun o ho w' hg => ?_⟩
      simp [execOp, ho, resolve, invoke, builtin, hx.int_inv, hy.int_inv, Builtin.min_, Builtin.min2]
    · cases h
  · cases h
end
end Go.Fm
