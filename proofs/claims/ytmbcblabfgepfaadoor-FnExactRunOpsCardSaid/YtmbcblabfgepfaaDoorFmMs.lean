/- The functional machine: maps looked at, bytes told as texts. -/
import Derived.Test.YtmbcblabfgepfaaDoorFmEq
import Derived.MapKept
import Derived.Laws.BytesArg
set_option autoImplicit true
set_option linter.unusedVariables false
set_option linter.unusedSimpArgs false
set_option linter.unusedSectionVars false
namespace Go.Fm
variable [Strict]
open Go.MapKept

theorem mapEnts_length {kk kv : Kind} : ∀ (l : List (kk.T × kv.T)) (i : Nat), (mapEnts kk kv i l).length = l.length
  | [], _ => rfl
  | p :: l, i => by simp [mapEnts, mapEnts_length l]
/-- a key's type -/
structure KeyTy (P : Program) (kt : TypeId) (kk : Kind) : Prop where
  desc : ∃ u, P.underlying kt = some u ∧ (∀ a : kk.T, IsKey u (oneV kk a)) ∧ ∀ a b : kk.T, Instr.sameNow u (oneV kk a) (oneV kk b) = some (eqT kk a b)
  eq : ∀ a b : kk.T, eqT kk a b = true → a = b
theorem keyTy {P : Program} {cx : Ctx} (hT : TypesOK P cx) {kt : TypeId} (hk : keyK (cx.kd kt) = true) : KeyTy P kt (cx.kd kt) := by
  cases hkd : cx.kd kt with
  | int k =>
    have h := tyOK_intk (hT.ty kt (by rw [hkd]; simp)) hkd
    exact ⟨⟨_, h, fun a => by simp [IsKey, oneV], fun a b => by
      simp only [Instr.sameNow, oneV, if_true, eqT]
      congr 1⟩, fun a b h => by simpa [eqT] using h⟩
  | str =>
    have h := tyOK_str (hT.ty kt (by rw [hkd]; simp)) hkd
    refine ⟨⟨_, h, fun a => by simp [IsKey, oneV], fun a b => ?_⟩, fun a b h => by simpa [eqT] using h⟩
    simp only [Instr.sameNow, oneV, eqT]
    congr 1
    rw [Bool.eq_iff_iff, MapKept.bytes_beq]
    simp
  | _ => rw [hkd] at hk; simp [keyK] at hk
theorem eqT_key {kk : Kind} (h : keyK kk = true) (a b : kk.T) : eqT kk a b = true ↔ a = b := by
  cases kk <;> simp [keyK] at h <;> simp [eqT]

section
variable {P : Program} {kk kv : Kind}
theorem findNow_ents {u : TypeDesc} (hs : ∀ a b : kk.T, Instr.sameNow u (oneV kk a) (oneV kk b) = some (eqT kk a b)) (k : kk.T) : ∀ (m : List (kk.T × kv.T)) (i j : Nat),
    (mfind kk kv m k = none → Instr.findNow u (oneV kk k) (mapEnts kk kv i m) j = some none) ∧ (∀ v, mfind kk kv m k = some v → ∃ q, q < m.length ∧ Instr.findNow u (oneV kk k) (mapEnts kk kv i m) j = some (some (j + q, oneV kv v)) ∧
      ∀ v', mapEnts kk kv i (mputT kk kv m k v') = (mapEnts kk kv i m).modify q (fun e => { e with key := oneV kk k, val := oneV kv v' }) ∧ (mputT kk kv m k v').length = m.length) ∧ (mfind kk kv m k = none → ∀ v', mputT kk kv m k v' = m ++ [(k, v')])
  | [], i, j => ⟨fun _ => rfl, fun v h => (by simp [mfind] at h), fun _ v' => rfl⟩
  | p :: r, i, j => by
    obtain ⟨h1, h2, h3⟩ := findNow_ents hs k r (i + 1) (j + 1)
    cases hk : eqT kk k p.1 with
    | true =>
      refine ⟨fun h => by simp [mfind, hk] at h, fun v h => ⟨0, by simp, ?_, fun v' => ⟨?_, by simp [mputT, hk]⟩⟩, fun h => by simp [mfind, hk] at h⟩
      · simp only [mfind, hk, cond_true, Option.some.injEq] at h
        subst h
        simp [mapEnts, Instr.findNow, hs, hk]
      · simp [mputT, mapEnts, hk]
    | false =>
      refine ⟨fun h => ?_, fun v h => ?_, fun h v' => ?_⟩
      · simp only [mfind, hk, cond_false] at h
        simp only [mapEnts, Instr.findNow, hs, hk]
        exact h1 h
      · simp only [mfind, hk, cond_false] at h
        obtain ⟨q, hq, hf, hm⟩ := h2 v h
        refine ⟨q + 1, by simp; omega, ?_, fun v' => ⟨?_, ?_⟩⟩
        · simp only [mapEnts, Instr.findNow, hs, hk]
          rw [hf]
          simp; omega
        · simp only [mputT, hk, cond_false, mapEnts, (hm v').1]
          simp
        · simp only [mputT, hk, cond_false, List.length_cons, (hm v').2]
      · simp only [mfind, hk, cond_false] at h
        simp only [mputT, hk, cond_false, h3 h v', List.cons_append]
theorem run_lookup {t kt et : TypeId} {W : World} {b : Nat} {m : List (kk.T × kv.T)} (ht : P.underlying t = some (.map kt et)) (hk : KeyTy P kt kk) (hz : ∀ w, (zeroValue et).run P w = .ok (oneV kv (zeroT kv)) w) (hb : W.heap[b]? = some (mapObj kk kv m)) (k : kk.T) (ok : Bool) :
    (Instr.lookup t (.map (some b)) (oneV kk k) ok).run P W = .ok (if ok then .tuple #[oneV kv (mgetT kk kv m k), .bool (mhasT kk kv m k)] else oneV kv (mgetT kk kv m k)) W := by
  obtain ⟨u, hu, hik, hs⟩ := hk.desc
  obtain ⟨h1, h2, _⟩ := findNow_ents (kv := kv) hs k m 0 0
  have hb' : W.heap[b]? = some (.map (mapEnts kk kv 0 m).toArray m.length) := hb
  cases hm : mfind kk kv m k with
  | none => cases ok <;> simp [Instr.lookup, run_underlying ht, MapKept.run_getObj_map hb', MapKept.run_checkKey hu (hik k), MapKept.run_findKey hu (h1 hm), hz, Result.andThen, mgetT, mhasT, hm]
  | some v =>
    obtain ⟨q, _, hf, _⟩ := h2 v hm
    cases ok <;> simp [Instr.lookup, run_underlying ht, MapKept.run_getObj_map hb', MapKept.run_checkKey hu (hik k), MapKept.run_findKey hu hf, Result.andThen, mgetT, mhasT, hm]
theorem run_mput {t kt et : TypeId} {W : World} {b : Nat} {m : List (kk.T × kv.T)} (ht : P.underlying t = some (.map kt et)) (hk : KeyTy P kt kk) (hb : W.heap[b]? = some (mapObj kk kv m)) (k : kk.T) (v : kv.T) :
    (Instr.mapUpdate t (.map (some b)) (oneV kk k) (oneV kv v)).run P W = .ok () { W with heap := W.heap.setIfInBounds b (mapObj kk kv (mputT kk kv m k v)) } := by
  obtain ⟨u, hu, hik, hs⟩ := hk.desc
  obtain ⟨h1, h2, h3⟩ := findNow_ents (kv := kv) hs k m 0 0
  have hb' : W.heap[b]? = some (.map (mapEnts kk kv 0 m).toArray m.length) := hb
  cases hm : mfind kk kv m k with
  | none =>
    have e : mapObj kk kv (mputT kk kv m k v) = .map ((mapEnts kk kv 0 m).toArray.push { key := oneV kk k, val := oneV kv v, born := m.length }) (m.length + 1) := by
      have hap : ∀ (l : List (kk.T × kv.T)) i, mapEnts kk kv i (l ++ [(k, v)]) = mapEnts kk kv i l ++ [{ key := oneV kk k, val := oneV kv v, born := i + l.length }] := by
        intro l
        induction l with
        | nil => intro i; simp [mapEnts]
        | cons p r ih => intro i; simp [mapEnts, ih]; omega
      simp only [mapObj, h3 hm v, hap, List.length_append, List.length_singleton, Nat.zero_add]
      simp
    rw [e]
    simp [Instr.mapUpdate, run_underlying ht, MapKept.run_getObj_map hb', MapKept.run_checkKey hu (hik k), MapKept.run_findKey hu (h1 hm), MapKept.run_setObj_map _ hb', Result.andThen]
  | some v0 =>
    obtain ⟨q, hq, hf, hme⟩ := h2 v0 hm
    obtain ⟨e1, e2⟩ := hme v
    have hlen : q < (mapEnts kk kv 0 m).length := by rw [mapEnts_length]; exact hq
    have e : mapObj kk kv (mputT kk kv m k v) = .map ((mapEnts kk kv 0 m).toArray.modify q fun e => { e with key := oneV kk k, val := oneV kv v }) m.length := by
      simp only [mapObj, e1, e2]
      congr 1
      apply Array.ext'
      simp
    have hold : (mapEnts kk kv 0 m)[q].key = oneV kk k := by
      have key : ∀ (l : List (kk.T × kv.T)) (i j q : Nat) (v0 : Value) (h : q < (mapEnts kk kv i l).length), Instr.findNow u (oneV kk k) (mapEnts kk kv i l) j = some (some (j + q, v0)) → ((mapEnts kk kv i l)[q]).key = oneV kk k := by
        intro l
        induction l with
        | nil => intro i j q v0 h; simp [mapEnts] at h
        | cons p r ih =>
          intro i j q v0 h hf
          simp only [mapEnts, Instr.findNow, hs] at hf
          cases hkk : eqT kk k p.1 with
          | true =>
            rw [hkk] at hf
            simp at hf
            have : q = 0 := by omega
            subst this
            simp only [mapEnts, List.getElem_cons_zero]
            rw [hk.eq _ _ hkk]
          | false =>
            rw [hkk] at hf
            cases q with
            | zero =>
              exfalso
              have bound : ∀ (l : List MapEntry) (j x : Nat) (y : Value), Instr.findNow u (oneV kk k) l j = some (some (x, y)) → j ≤ x := by
                intro l
                induction l with
                | nil => intro j x y h; simp [Instr.findNow] at h
                | cons e l ih2 =>
                  intro j x y h
                  simp only [Instr.findNow] at h
                  split at h
                  · simp at h; omega
                  · have := ih2 _ _ _ h; omega
                  · cases h
              have := bound _ _ _ _ hf
              omega
            | succ q =>
              simp only [mapEnts, List.getElem_cons_succ]
              have hf : Instr.findNow u (oneV kk k) (mapEnts kk kv (i + 1) r) (j + 1) = some (some (j + (q + 1), v0)) := hf
              exact ih (i + 1) (j + 1) q v0 (by simpa [mapEnts] using h) (by rw [hf]; congr 3; omega)
      exact key m 0 0 q (oneV kv v0) hlen (by simpa using hf)
    rw [e]
    have hf' : Instr.findNow u (oneV kk k) (mapEnts kk kv 0 m) 0 = some (some (q, oneV kv v0)) := by simpa using hf
    simp [Instr.mapUpdate, run_underlying ht, MapKept.run_getObj_map hb', MapKept.run_checkKey hu (hik k), MapKept.run_findKey hu hf', MapKept.run_setObj_map _ hb', Result.andThen, hlen, hold, MapKept.run_keyThatStays (hik k)]
end
section
variable {P : Program} {cx : Ctx} {st : St} {a : Act} {m : Mem} {w0 : World} {O0 : OX} {n : Nat} {R : Type} {C : Slot → Option R} {r : R}
theorem oneV_reg {w : World} {O : Nat → Prop} {k : Kind} (hk : elemK k = true) (v : k.T) : Reg w O k (oneV k v) v := by
  cases k <;> simp [elemK] at hk
  · exact Reg.int _ _
  · exact Reg.bool _
  · exact Reg.str _
theorem oneV_inv {w : World} {O : Nat → Prop} {k : Kind} (hk : elemK k = true) {v : k.T} {u : Value} (h : Cells w O k u.cells.toList v) (hf : u.oneCell' = true) : u = oneV k v := by
  have hc : u.cells = #[u] := by cases u <;> simp [Value.oneCell'] at hf <;> rfl
  rw [hc] at h
  cases k <;> simp [elemK] at hk <;> simpa [Cells, oneV] using h
theorem keyK_elem {k : Kind} (h : keyK k = true) : elemK k = true := by cases k <;> simp [keyK] at h <;> rfl
theorem justVal_one {x : Slot} {k : Kind} {v : k.T} {u : Value} (hk : elemK k = true) (h : justVal x k = some v) (hs : SRel m x u) : u = oneV k v := by
  unfold justVal at h
  split at h
  · obtain ⟨rfl, rfl⟩ := cast?_some h
    simp only [SRel] at hs
    refine oneV_inv hk hs.cells ?_
    unfold Reg at hs
    have hag : ∀ k : Kind, elemK k = true → ¬ aggB k = true := fun k h => by cases k <;> simp [elemK] at h <;> simp [aggB]
    rw [if_neg (hag _ hk)] at hs
    exact hs.1
  · obtain ⟨rfl, rfl⟩ := cast?_some h
    simp only [SRel] at hs; subst hs; rfl
  · cases h
theorem zero_one (hT : TypesOK P cx) {t : TypeId} (hk : elemK (cx.kd t) = true) : ∀ w, (zeroValue t).run P w = .ok (oneV (cx.kd t) (zeroT (cx.kd t))) w := by
  have hty := hT.ty t (by intro h; rw [h] at hk; simp [elemK] at hk)
  have hi : Info P t (cx.kd t) := by
    unfold tyOK at hty
    cases hu : P.underlying t with
    | none => simp [hu] at hty
    | some d => cases hkd : cx.kd t <;> rw [hkd] at hk <;> simp [elemK] at hk <;> cases d <;> simp [hu, hkd] at hty <;> first | exact Info.of hty.2 | exact Info.of hty
  obtain ⟨z, h1, h2, _, h4⟩ := hi.zero
  intro w
  rw [h1 w]
  congr 1
  have hag : aggB (cx.kd t) = false := by cases hkd : cx.kd t <;> rw [hkd] at hk <;> simp [elemK] at hk <;> rfl
  have hone := h4 hag
  have hc : z.cells = #[z] := by cases z <;> simp [Value.oneCell'] at hone <;> rfl
  rw [hc] at h2
  cases hkd : cx.kd t <;> rw [hkd] at hk h2 <;> simp [elemK] at hk <;> simp [zcells] at h2 <;> rw [h2] <;> rfl
theorem map_loc (hR : Rel st a m w0 O0 n) {q : Nat} {kk kv : Kind} {l : List (kk.T × kv.T)} (hn : st.nodes q = some (.mp kk kv l)) {u : Value} (hs : SRel m (.mref q) u) :
    keyK kk = true ∧ elemK kv = true ∧ ∃ b, u = .map (some b) ∧ m.loc q = .map (some b) ∧ m.w.heap[b]? = some (mapObj kk kv l) := by
  have hn' : m.nodes q = some (.mp kk kv l) := by rw [hR.nodes]; exact hn
  obtain ⟨h1, h2, b, h3, h4⟩ := hR.ok.node q _ hn'
  simp only [SRel] at hs
  exact ⟨h1, h2, b, (hs.2.2 kk kv l hn').trans h3, h3, h4⟩
theorem soft_lookup (hT : TypesOK P cx) (hR : Rel st a m w0 O0 n) (t : TypeId) (x i : Operand) (ok : Bool) (h : softC cx st (.lookup t x i ok) C = some r) :
    ∃ y, C y = some r ∧ QOp P (.lookup t x i ok) a m y := by
  have hx := evalS_sound hR x
  have hi := evalS_sound hR i
  simp only [softC] at h
  split at h
  · rename_i kt et hmp
    split at h
    · rename_i q he
      split at h
      · rename_i kk kv l hn
        split at h
        · rename_i hkk
          split at h
          · rename_i hkv
            split at h
            · rename_i k hjk
              subst hkk hkv
              rw [he] at hx
              obtain ⟨h1, h2, b, h3, h4, h5⟩ := map_loc hR hn hx
              have hk := justVal_one (keyK_elem h1) hjk hi
              have hlt := lt_of_heap h5
              have hrun : ∀ (o : Oper), o.op = .lookup t x i ok → ∀ w', Grow m.w w' → (execOp a.eval o).run P w' = .ok (.value (if ok then .tuple #[oneV (cx.kd et) (mgetT (cx.kd kt) (cx.kd et) l k), .bool (mhasT (cx.kd kt) (cx.kd et) l k)] else oneV (cx.kd et) (mgetT (cx.kd kt) (cx.kd et) l k))) w' := fun o ho w' hg => by
                have := run_lookup (P := P) (hT.mp t kt et hmp) (keyTy hT h1) (zero_one hT h2) ((hg.block b hlt).trans h5) k ok
                simp only [execOp, ho, h3, hk, this, Sem.run_bind, Result.andThen_ok, Sem.run_pure]
              cases ok with
              | true =>
                rw [cond_true] at h
                refine ⟨_, h, .run _ ?_ hrun⟩
                simp only [if_true, SRel, STup]
                exact ⟨_, rfl, _, _, rfl, oneV_reg h2 _, _, _, rfl, Reg.bool _, rfl⟩
              | false =>
                rw [cond_false] at h
                exact ⟨_, h, .run _ (SRel.valI (oneV_reg h2 _)) hrun⟩
            · cases h
          · cases h
        · cases h
      · cases h
    · rename_i kk kv l he
      split at h
      · rename_i hkk
        split at h
        · rename_i hkv
          split at h
          · rename_i k hjk
            subst hkk hkv
            rw [he] at hx
            simp only [SRel] at hx
            have hx2 := hx
            unfold Reg at hx2
            rw [if_neg (by simp [aggB])] at hx2
            obtain ⟨_, b, h3, h1, h2, h5, _⟩ := hx2
            have h3 : a.eval x = .map (some b) := by simpa using h3
            have hk := justVal_one (keyK_elem h1) hjk hi
            have hlt := lt_of_heap h5
            have hrun : ∀ (o : Oper), o.op = .lookup t x i ok → ∀ w', Grow m.w w' → (execOp a.eval o).run P w' = .ok (.value (if ok then .tuple #[oneV (cx.kd et) (mgetT (cx.kd kt) (cx.kd et) l k), .bool (mhasT (cx.kd kt) (cx.kd et) l k)] else oneV (cx.kd et) (mgetT (cx.kd kt) (cx.kd et) l k))) w' := fun o ho w' hg => by
              have := run_lookup (P := P) (hT.mp t kt et hmp) (keyTy hT h1) (zero_one hT h2) ((hg.block b hlt).trans h5) k ok
              simp only [execOp, ho, h3, hk, this, Sem.run_bind, Result.andThen_ok, Sem.run_pure]
            cases ok with
            | true =>
              rw [cond_true] at h
              refine ⟨_, h, .run _ ?_ hrun⟩
              simp only [if_true, SRel, STup]
              exact ⟨_, rfl, _, _, rfl, oneV_reg h2 _, _, _, rfl, Reg.bool _, rfl⟩
            | false =>
              rw [cond_false] at h
              exact ⟨_, h, .run _ (SRel.valI (oneV_reg h2 _)) hrun⟩
          · cases h
        · cases h
      · cases h
    · cases h
  · cases h
theorem bytesOf_eq (l : List Int) : bytesOf l = strOfNums l := rfl
theorem soft_convert2 (hT : TypesOK P cx) (hR : Rel st a m w0 O0 n) (s d : TypeId) (x : Operand) (h : softC cx st (.convert s d x) C = some r) :
    ∃ y, C y = some r ∧ QOp P (.convert s d x) a m y := by
  have hx := evalS_sound hR x
  simp only [softC] at h
  split at h
  · rename_i k1 k2 hk1 hk2
    split at h
    · rename_i k3 v he
      rw [he] at hx; simp only [SRel] at hx
      have h1 := tyOK_intk (hT.ty s (by rw [hk1]; simp)) hk1
      have h2 := tyOK_intk (hT.ty d (by rw [hk2]; simp)) hk2
      refine ⟨_, h, .run _ (SRel.int _ _) fun o ho w' hg => ?_⟩
      simp [execOp, ho, hx.int_inv, convert, run_underlying h1, run_underlying h2, Conv.intToInt]
    · cases h
  · rename_i hk1 hk2
    split at h
    · rename_i l hl
      obtain ⟨te, h1, h2, _⟩ := kd_slice hT hk1.symm
      have h3 := tyOK_intk (hT.ty te (by rw [h2]; simp)) h2
      have h4 := kd_str hT hk2.symm
      have hreg := asVal_sound (m := m) (nodes := st.nodes) (O' := fun _ => False) (fun q x h => by rw [hR.nodes]; exact h) hR.ok.node (fun b hb => hb.elim) 8 _ _ l _ hl hx (fun q _ b _ hb => hb)
      obtain ⟨A, cap, h5, h6, h7⟩ := hreg.slice_inv
      refine ⟨_, h, .run _ (SRel.str _) fun o ho w' hg => ?_⟩
      have hrun : (convert s d (a.eval x)).run P w' = .ok (.string (bytesOf l)) w' := by
        rw [h5]
        rcases h7 with h7 | ⟨b, off, blk, ty, fr, rfl, h8, h9, h10⟩
        · have hl0 : l = [] := List.eq_nil_of_length_eq_zero h7
          subst hl0
          cases A with
          | none => exact run_convert_bytes_nil w' s te h1 h3 _ _ d h4
          | some A =>
            rw [run_convert_bytes_string w' s d te (some A) _ cap h1 h3 h4]
            have := run_bytesToString (P := P) w' A 0 cap [] (by simp [loadCells, loadCellsFrom])
            exact this
        · have hlt := lt_of_heap h8
          refine run_convert_bytes_arg w' s te h1 h3 b off l.length cap l rfl (fun i hi => ?_) d h4
          have hc := Rows.get (Cells.len (.int .u8)) i h10 hi
          simp only [width, Nat.mul_one, Cells] at hc
          have hg' := (hg.block b hlt).trans h8
          have e1 : blk[off + i]? = some (.int .u8 l[i]) := by
            have h11 := congrArg (fun z : List Value => z[0]?) hc
            simp only [List.getElem?_cons_zero, List.getElem?_take, List.getElem?_drop, Nat.add_zero] at h11
            rw [if_pos (by omega), if_pos (by simpa [width] using hi)] at h11
            simpa using h11
          unfold World.cell?
          simp only [hg']
          simpa [hi] using e1
      simp only [execOp, ho, hrun, Sem.run_bind, Result.andThen_ok, Sem.run_pure]
    · cases h
  · cases h
end
end Go.Fm
