/- The functional machine: operations that leave memory alone, more. -/
import Derived.Test.YtmbcblabfgepfaaDoorFmG
set_option autoImplicit true
set_option linter.unusedVariables false
set_option linter.unusedSimpArgs false
set_option linter.unusedSectionVars false
namespace Go.Fm
variable [Strict]
theorem size_len (b : ByteArray) : b.size = b.data.toList.length := by rw [Array.length_toList]; rfl
theorem toList_loop (b : ByteArray) : ∀ (n i : Nat) (r : List UInt8), b.size - i = n → ByteArray.toList.loop b i r = r.reverse ++ b.data.toList.drop i
  | 0, i, r, h => by
    unfold ByteArray.toList.loop
    rw [if_neg (by omega), List.drop_eq_nil_of_le (by rw [← size_len]; omega)]
    simp
  | n + 1, i, r, h => by
    unfold ByteArray.toList.loop
    rw [if_pos (by omega), toList_loop b n (i + 1) _ (by omega)]
    have hi : i < b.data.toList.length := by rw [← size_len]; omega
    rw [List.drop_eq_getElem_cons hi]
    have : b.get! i = b.data.toList[i] := by
      cases b with
      | mk d =>
        show d[i]! = _
        simp at hi
        simp [hi]
    simp [this]
theorem toList_eq (b : ByteArray) : b.toList = b.data.toList := by
  unfold ByteArray.toList
  rw [toList_loop b b.size 0 [] (by omega)]; simp
theorem toList_inj {a b : ByteArray} : a.toList = b.toList ↔ a = b := by
  constructor
  · intro h
    rw [toList_eq, toList_eq] at h
    cases a with | mk a => cases b with | mk b => congr 1; exact Array.toList_inj.1 h
  · rintro rfl; rfl
theorem eq_toList (a b : ByteArray) : (a.toList == b.toList) = decide (a = b) := by
  rw [Bool.eq_iff_iff]; simp [toList_inj]
theorem wrapK_eq (k : IntKind) (n : Int) : wrapK k n = k.wrap n := by
  unfold wrapK
  split
  · rename_i h; subst h
    simp only [RowKit.wrap64, IntKind.wrap, IntKind.bits, IntKind.signed]
    have h1 : (2 ^ 64 : Int) = 18446744073709551616 := by decide
    have h2 : (2 ^ (64 - 1) : Int) = 9223372036854775808 := by decide
    simp only [h1, h2]
    simp
    split <;> omega
  · rfl

section
variable {P : Program} {cx : Ctx} {st : St} {a : Act} {m : Mem} {w0 : World} {O0 : OX} {n : Nat} {R : Type} {C : Slot → Option R} {r : R}

theorem SRel.valI {k : Kind} {v : k.T} {u : Value} (h : Reg m.w m.O k u v) : SRel m (.val k v) u := by simpa only [SRel] using h
theorem SRel.int (k : IntKind) (x : Int) : SRel m (.val (.int k) x) (.int k x) := .valI (Reg.int k x)
theorem SRel.bool (b : Bool) : SRel m (.val .bool b) (.bool b) := .valI (Reg.bool b)
theorem SRel.str (s : ByteArray) : SRel m (.val .str s) (.string s) := .valI (Reg.str s)
theorem SRel.prop' (p : Prop) (d : Decidable p) (b : Bool) (h : b = @decide p d) : SRel m (.prop p d) (.bool b) := by simp only [SRel]; rw [h]

/-- an operator of the Go machine on plain values -/
theorem run_binOp {o : Oper} {op : BinOp} {t yt : TypeId} {x y : Operand} (ho : o.op = .binOp op t x y yt) {u v z : Value} (hx : a.eval x = u) (hy : a.eval y = v) {w' : World}
    (hg : (eqGuard op t x y u v).run P w' = .ok () w') (hz : (binOp op t u v).run P w' = .ok z w') : (execOp a.eval o).run P w' = .ok (.value z) w' := by
  simp only [execOp, ho, hx, hy, Sem.run_bind, hg, Result.andThen_ok, hz, Sem.run_pure]
theorem run_eqGuard {op : BinOp} {t : TypeId} {x y : Operand} {u v : Value} {w' : World} (h1 : u ≠ .nilIface) (h2 : ∀ cs, u ≠ .agg cs) : (eqGuard op t x y u v).run P w' = .ok () w' := by
  unfold eqGuard
  cases op <;> simp <;> (cases u <;> simp at h1 h2 ⊢)

theorem binS_sound (op : BinOp) (t : TypeId) {x y s : Slot} {u v : Value} (hx : SRel m x u) (hy : SRel m y v) (h : binS op x y = some s) :
    u ≠ .nilIface ∧ (∀ cs, u ≠ .agg cs) ∧ ∃ z, SRel m s z ∧ ∀ w', (binOp op t u v).run P w' = .ok z w' := by
  unfold binS at h
  split at h <;> (try simp only [SRel] at hx hy) <;> (try (split at h)) <;> (try (cases h; done)) <;> (try (simp only [Option.some.injEq] at h; subst h)) <;> (try (rename_i hk; subst hk))
  · rw [hx.int_inv, hy.int_inv]
    exact ⟨by simp, by simp, _, SRel.int _ _, fun w' => by simp [binOp, Op.intArith, wrapK_eq]⟩
  · rw [hx.int_inv, hy.int_inv]
    exact ⟨by simp, by simp, _, SRel.int _ _, fun w' => by simp [binOp, Op.intArith, wrapK_eq]⟩
  · rw [hx.int_inv, hy.int_inv]
    exact ⟨by simp, by simp, _, SRel.int _ _, fun w' => by simp [binOp, Op.intArith, wrapK_eq]⟩
  · rw [hx.int_inv, hy.int_inv]
    exact ⟨by simp, by simp, .bool _, SRel.prop' _ _ _ rfl, fun w' => by simp [binOp, Op.intCmp]⟩
  · rw [hx.int_inv, hy.int_inv]
    exact ⟨by simp, by simp, .bool _, SRel.prop' _ _ _ rfl, fun w' => by simp [binOp, Op.intCmp]⟩
  · rw [hx.int_inv, hy.int_inv]
    exact ⟨by simp, by simp, .bool _, SRel.prop' _ _ _ rfl, fun w' => by simp [binOp, Op.intCmp]⟩
  · rw [hx.int_inv, hy.int_inv]
    exact ⟨by simp, by simp, .bool _, SRel.prop' _ _ _ rfl, fun w' => by simp [binOp, Op.intCmp]⟩
  · rw [hx.int_inv, hy.int_inv]
    exact ⟨by simp, by simp, .bool _, SRel.prop' _ _ _ rfl, fun w' => by simp [binOp, Op.intCmp]; rfl⟩
  · rw [hx.int_inv, hy.int_inv]
    exact ⟨by simp, by simp, .bool _, SRel.prop' _ _ _ rfl, fun w' => by simp [binOp, Op.intCmp, bne]; rfl⟩
  · rw [hx.str_inv, hy.str_inv]
    exact ⟨by simp, by simp, .bool _, SRel.prop' _ _ _ rfl, fun w' => by simp [binOp, Op.stringOp, eq_toList]⟩
  · rw [hx.str_inv, hy.str_inv]
    exact ⟨by simp, by simp, .bool _, SRel.prop' _ _ _ rfl, fun w' => by simp [binOp, Op.stringOp, eq_toList]⟩
  · rw [hx.str_inv, hy.str_inv]
    exact ⟨by simp, by simp, _, SRel.bool _, fun w' => by simp [binOp, Op.stringOp, lessS]⟩
  · rw [hx.str_inv, hy.str_inv]
    exact ⟨by simp, by simp, _, SRel.bool _, fun w' => by simp [binOp, Op.stringOp, lessS, sameS, eq_toList]⟩
  · rw [hx.str_inv, hy.str_inv]
    exact ⟨by simp, by simp, _, SRel.bool _, fun w' => by simp [binOp, Op.stringOp, lessS, sameS, eq_toList]⟩
  · rw [hx.str_inv, hy.str_inv]
    exact ⟨by simp, by simp, _, SRel.bool _, fun w' => by simp [binOp, Op.stringOp, lessS]⟩

theorem soft_unOp (hR : Rel st a m w0 O0 n) (op : UnOp) (t : TypeId) (x : Operand) (h : softC cx st (.unOp op t x) C = some r) :
    ∃ s, C s = some r ∧ QOp P (.unOp op t x) a m s := by
  have hx := evalS_sound hR x
  cases op <;> simp only [softC] at h <;> (try (cases h; done))
  case neg =>
    split at h
    · rename_i k a1 he
      rw [he] at hx; simp only [SRel] at hx
      refine ⟨_, h, .run _ (SRel.int _ _) fun o ho w' hg => ?_⟩
      simp [execOp, ho, hx.int_inv, Op.unary, Op.intArith, wrapK_eq]
    · cases h
  split at h
  · rename_i s hs
    unfold notS at hs
    split at hs
    · rename_i p d he
      rw [he] at hx; simp only [SRel] at hx; simp only [Option.some.injEq] at hs; subst hs
      refine ⟨_, h, .run (.bool (!decide p)) (SRel.prop' _ _ _ (by simp)) fun o ho w' hg => ?_⟩
      simp only [execOp, ho, hx, Op.unary]; rfl
    · rename_i b he
      rw [he] at hx; simp only [SRel] at hx; simp only [Option.some.injEq] at hs; subst hs
      have hx' := hx.bool_inv
      refine ⟨_, h, .run _ (SRel.bool _) fun o ho w' hg => ?_⟩
      simp only [execOp, ho, hx', Op.unary]; rfl
    · cases hs
  · cases h
theorem soft_nilCheck (hR : Rel st a m w0 O0 n) (x : Operand) (h : softC cx st (.nilCheck x) C = some r) :
    ∃ s, C s = some r ∧ QOp P (.nilCheck x) a m s := by
  have hx := evalS_sound hR x
  simp only [softC] at h
  split at h
  · rename_i k v he
    rw [he] at hx
    have hx' := hx
    simp only [SRel] at hx
    unfold Reg at hx
    rw [if_neg (by simp [aggB])] at hx
    obtain ⟨b, off, blk, ty, fr, h1, _⟩ := hx.2
    have hu : a.eval x = .pointer (some ⟨b, off, none⟩) := by simpa using h1
    refine ⟨_, h, .run _ hx' fun o ho w' hg => ?_⟩
    simp [execOp, ho, hu]
  · rename_i b path he
    split at h
    · rename_i k c hn
      rw [he] at hx
      have hx' := hx
      simp only [SRel] at hx
      obtain ⟨g, o1, k1, h1, h2, h3⟩ := hx.2 k c (by rw [hR.nodes]; exact hn)
      refine ⟨_, h, .run _ hx' fun o ho w' hg => ?_⟩
      simp [execOp, ho, h3]
    · cases h
  · cases h
theorem STup_get : ∀ {l : List Slot} {us : List Value} {i : Nat} {x : Slot}, STup m l us → l[i]? = some x → ∃ u, us[i]? = some u ∧ SRel m x u
  | [], us, i, x, h, hl => by simp at hl
  | y :: l, us, i, x, h, hl => by
    simp only [STup] at h
    obtain ⟨u, us', rfl, h1, h2⟩ := h
    cases i with
    | zero => simp at hl; subst hl; exact ⟨u, rfl, h1⟩
    | succ i =>
      obtain ⟨u2, h3, h4⟩ := STup_get h2 (i := i) (by simpa using hl)
      exact ⟨u2, by simpa using h3, h4⟩
theorem soft_extract (hR : Rel st a m w0 O0 n) (x : Operand) (i : Nat) (h : softC cx st (.extract x i) C = some r) :
    ∃ s, C s = some r ∧ QOp P (.extract x i) a m s := by
  have hx := evalS_sound hR x
  simp only [softC] at h
  split at h
  · rename_i l he
    split at h
    · rename_i s hs
      rw [he] at hx; simp only [SRel] at hx
      obtain ⟨us, h1, h2⟩ := hx
      obtain ⟨u, h3, h4⟩ := STup_get h2 hs
      exact ⟨s, h, .run u h4 fun o ho w' hg => by simp [execOp, ho, h1, Instr.extract, h3]⟩
    · cases h
  · cases h

theorem kd_slice (hT : TypesOK P cx) {t : TypeId} {e : Kind} (h : .slice e = cx.kd t) : ∃ te, P.underlying t = some (.slice te) ∧ cx.kd te = e ∧ Info P te e ∧ Info P t (.slice e) ∧ width e ≠ 0 ∧ (aggB e = true ∨ width e = 1) :=
  tyOK_slice (hT.ty t (by rw [← h]; simp)) h.symm
theorem kd_str (hT : TypesOK P cx) {t : TypeId} (h : .str = cx.kd t) : P.underlying t = some .string := tyOK_str (hT.ty t (by rw [← h]; simp)) h.symm
theorem kd_struct (hT : TypesOK P cx) {t : TypeId} {b : Kind} (h : .struct b = cx.kd t) : ∃ fs, P.underlying t = some (.struct fs) ∧ fieldsOK P cx.kd fs.toList b 0 = true ∧ Info P t (.struct b) ∧ (wfB (.struct b)).1 = true :=
  tyOK_struct (hT.ty t (by rw [← h]; simp)) h.symm

theorem run_lenOp {o : Oper} {x : Operand} {t : TypeId} (ho : o.op = .call { callee := .builtin .len, args := #[x], argTypes := #[t] }) {u v : Value} (hx : a.eval x = u) {w' : World}
    (h : (Builtin.len_ #[t] o.type #[u]).run P w' = .ok v w') : (execOp a.eval o).run P w' = .ok (.value v) w' := by
  simp [execOp, ho, resolve, invoke, builtin, hx, h]
theorem run_len_slice' {t te ty : TypeId} (h : P.underlying t = some (.slice te)) (A : Option Addr) (k c : Nat) (w' : World) : (Builtin.len_ #[t] ty #[.slice A k c]).run P w' = .ok (.int .i64 k) w' := by
  simp [Builtin.len_, run_underlying h, goInt]
theorem ops_one {args : Array Operand} {x : Operand} (h : args.toList = [x]) : args = #[x] := by
  apply Array.toList_inj.1; simpa using h
theorem tys_one {ts : Array TypeId} {x : TypeId} (h : ts.toList = [x]) : ts = #[x] := by
  apply Array.toList_inj.1; simpa using h
theorem row_loc (hR : Rel st a m w0 O0 n) {q : Nat} {ty : TypeId} {e : Kind} {l : List e.T} (hn : st.nodes q = some (.row ty e l)) :
    ∃ xs, m.w.ownsRow 0 ty (width e) (m.loc q) l.length xs ∧ Rows (Cells m.w m.O e) xs l := by
  have h := hR.ok.node q (.row ty e l) (by rw [hR.nodes]; exact hn)
  simpa only [NodeRel] using h
theorem row_val {w : World} {ty size : Nat} {v : Value} {k : Nat} {xs : List Value} (h : w.ownsRow 0 ty size v k xs) : ∃ A c, v = .slice A k c ∧ k ≤ c ∧ (k ≠ 0 → ∃ g, A = some ⟨g, 0, none⟩) := by
  rcases h.2 with ⟨h1, h2⟩ | ⟨g, cap, cur, h1, _, _, h5, _⟩
  · exact ⟨none, 0, by rw [h1, h2], by omega, fun h3 => absurd h2 h3⟩
  · exact ⟨_, cap, h1, h5, fun _ => ⟨g, rfl⟩⟩
theorem len_any (hT : TypesOK P cx) (hR : Rel st a m w0 O0 n) (args : Array Operand) (ts : Array TypeId) (h : softC cx st (.call { callee := .builtin .len, args := args, argTypes := ts }) C = some r) :
    ∃ s, C s = some r ∧ ∃ u, SRel m s u ∧ ∀ o : Oper, o.op = .call { callee := .builtin .len, args := args, argTypes := ts } → ∀ w', (execOp a.eval o).run P w' = .ok (.value u) w' := by
  simp only [softC] at h
  split at h
  · rename_i x t ha ht
    have := ops_one ha; subst this
    have := tys_one ht; subst this
    have hx := evalS_sound hR x
    split at h
    · rename_i s he
      split at h
      · rename_i hk
        rw [he] at hx; simp only [SRel] at hx
        refine ⟨_, h, _, SRel.int _ _, fun o ho w' => run_lenOp ho hx.str_inv ?_⟩
        simp [Builtin.len_, run_underlying (kd_str hT hk), goInt]
      · cases h
    · rename_i e l he
      split at h
      · rename_i hk
        rw [he] at hx; simp only [SRel] at hx
        obtain ⟨A, cap, h1, _⟩ := hx.slice_inv
        obtain ⟨te, h2, _⟩ := kd_slice hT hk
        exact ⟨_, h, _, SRel.int _ _, fun o ho w' => run_lenOp ho h1 (run_len_slice' h2 _ _ _ _)⟩
      · cases h
    · rename_i he
      split at h
      · rename_i e hk
        rw [he] at hx; simp only [SRel] at hx
        obtain ⟨te, h2, _⟩ := kd_slice hT hk.symm
        exact ⟨_, h, _, SRel.int _ _, fun o ho w' => run_lenOp ho hx (run_len_slice' h2 _ _ _ _)⟩
      · cases h
    · rename_i q he
      split at h
      · rename_i ty e l hn
        split at h
        · rename_i hk
          rw [he] at hx; simp only [SRel] at hx
          have h1 := hx.2.2 ty e l (by rw [hR.nodes]; exact hn)
          obtain ⟨xs, h3, _⟩ := row_loc hR hn
          obtain ⟨A, c, h4, _⟩ := row_val h3
          obtain ⟨te, h2, _⟩ := kd_slice hT hk
          exact ⟨_, h, _, SRel.int _ _, fun o ho w' => run_lenOp ho (h1.trans h4) (run_len_slice' h2 _ _ _ _)⟩
        · cases h
      · cases h
    · rename_i q lo hi he
      split at h
      · rename_i ty e l hn
        split at h
        · rename_i hk
          rw [he] at hx; simp only [SRel] at hx
          obtain ⟨g0, g1, g2, A, c, h4, _⟩ := hx.2 ty e l (by rw [hR.nodes]; exact hn)
          obtain ⟨te, h2, _⟩ := kd_slice hT hk
          refine ⟨_, h, _, SRel.int _ _, fun o ho w' => run_lenOp ho h4 ?_⟩
          rw [run_len_slice' h2]
          congr 2; omega
        · cases h
      · cases h
    · rename_i q he
      split at h
      · rename_i ty e ts l hn
        split at h
        · rename_i e0 hk
          split at h
          · rw [he] at hx; simp only [SRel] at hx
            have hD := hR.deep hn
            obtain ⟨A, c, h4⟩ := hD.hdr
            have h5 : a.eval x = .slice A l.length c := by rw [h4] at hx; exact (Option.some.inj hx.2.1).symm
            obtain ⟨te, h2, _⟩ := kd_slice hT hk.symm
            exact ⟨_, h, _, SRel.int _ _, fun o ho w' => run_lenOp ho h5 (run_len_slice' h2 _ _ _ _)⟩
          · cases h
        · cases h
      · cases h
    · cases h
  · cases h
theorem soft_len (hT : TypesOK P cx) (hR : Rel st a m w0 O0 n) (args : Array Operand) (ts : Array TypeId) (h : softC cx st (.call { callee := .builtin .len, args := args, argTypes := ts }) C = some r) :
    ∃ s, C s = some r ∧ QOp P (.call { callee := .builtin .len, args := args, argTypes := ts }) a m s := by
  obtain ⟨s, h1, u, h2, h3⟩ := len_any hT hR args ts h
  exact ⟨s, h1, .run u h2 fun o ho w' _ => h3 o ho w'⟩
end
end Go.Fm
