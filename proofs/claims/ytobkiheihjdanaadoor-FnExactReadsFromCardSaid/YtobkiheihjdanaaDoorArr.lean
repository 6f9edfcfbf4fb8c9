/- An array of the call's own, of fixed length, its elements of one cell: made, told as a list, an element read or stored, the whole read, two of them compared: as events of the print's walks. No condition beyond what each word says. -/
import Derived.Test.YtobkiheihjdanaaDoorMap
import Derived.Laws.Rows
import Derived.Laws.Tables
import Derived.Stop.BytesEq
import Derived.Laws.StructEq
import Derived.Lib.ReflectliteSwap
namespace Go.Proofs.YtobkiheihjdanaaDoor.MapW
open Go.RowKit Go.MapKept Go.Proofs.YtobkiheihjdanaaDoorW.PrintWords Go.Proofs.YtobkiheihjdanaaDoorW.PrintLast Go.Proofs.YtobkiheihjdanaaDoorW.PrintMore
set_option linter.unusedSimpArgs false
set_option linter.unusedVariables false

def arAt {V : Type} (l : List V) (i : Int) (d : V) : V := l.getD i.toNat d
section
variable {P : Program} {ops : Array Oper} {rest : List Oper} {o : Oper} {a : Act} {Q : Exit → Act → World → Prop} {V : Type} {ev : V → Value}
/-- The operation is a store, and what is stored there. -/
theorem gate_astore {W : World} {t : TypeId} {g : Nat} (_ho : ∃ x y, o.op = .store t x y ∧ a.eval x = .pointer (some ⟨g, 0, none⟩)) (_hd : o.dst = none) (h : wpList P ops Q (o :: rest) a W) : wpList P ops Q (o :: rest) a W := h
theorem gate_aput {W : World} {t : TypeId} {g : Nat} (i : Int) (_ho : ∃ x y, o.op = .store t x y ∧ a.eval x = .pointer (some ⟨g, i.toNat, none⟩)) (_hd : o.dst = none) (h : wpList P ops Q (o :: rest) a W) : wpList P ops Q (o :: rest) a W := h
/-- A row of the call's own whose elements are of another type is not the array's block. -/
theorem R_over_arr {α : Type} {d : Kd α} {e base : Nat} {ok : Nat → Prop} {W w1 : World} {v : Value} {xs : List α} {g t : Nat} {cs : Array Value} (h : d.R e W base ok v xs) (hb : W.heap[g]? = some (.cells cs t (0, 0))) (ht : ∀ q, q ∈ e :: d.E → q ≠ t) (hg : W.grownBy w1 (some g)) : d.R e w1 base ok v xs :=
  Kd.R_mono (Kd.R_step (Kd.R_types h hb ht) (fun k hk hlt => hg.block k hlt (fun e => hk.2 (Option.some.inj e)))) (fun _ hk => hk.1)
theorem arr_init_event {W : World} (hgd : o.guard = none) (t : TypeId) {b : Nat} {l l' : List V} (ho : ∃ x y, o.op = .store t x y ∧ a.eval x = .pointer (some ⟨b, 0, none⟩) ∧ a.eval y = .agg (l'.map ev).toArray) (hn : o.dst = none)
    (hi : (P.info? t).map (·.size) = some l'.length) (hl : l.length = l'.length) (h1 : ∀ v, (ev v).oneCell' = true) (hb : W.heap[b]? = some (.cells (l.map ev).toArray t (0, 0)))
    (h : ∀ w1, w1.heap[b]? = some (.cells (l'.map ev).toArray t (0, 0)) → W.grownBy w1 (some b) → wpList P ops Q rest a w1) : wpList P ops Q (o :: rest) a W := by
  obtain ⟨x, y, ho, hx, hy⟩ := ho
  have hrun := run_storeVar_row (P := P) W b t t _ (l'.map ev).toArray hb (by simpa using hi) (by simpa using hl) (by simp [h1])
  have hlt := blk_lt hb
  have H := h (W.setRow b (l'.map ev).toArray) (setRow_heap W b _ _ t (0, 0) hb) ⟨rfl, rfl, rfl, by simp [World.setRow], fun i _ hi => by
    exact setRow_other W b i _ (fun e => hi (by rw [e]))⟩
  refine wpList_plain hgd fun K' hK' => ?_
  unfold Oper.wp
  simp [execOp, ho, hx, hy, Instr.storeAt, Instr.sureAddr, hrun, Result.andThen]
  refine hK' _ _ ?_
  rw [hn]
  exact H
theorem arr_idx_event {W : World} (hgd : o.guard = none) {N : Tmp} (_hd : o.dst = some N) {ta te : TypeId} {n b : Nat} {k : IntKind} (i : Int) (ho : ∃ x y, o.op = .indexAddr ta x y ∧ a.eval x = .pointer (some ⟨b, 0, none⟩) ∧ a.eval y = .int k i)
    (hu : P.underlying ta = some (.array n te)) (hs : (P.info? te).map (·.size) = some 1) (h0 : 0 ≤ i) (h1 : i < n)
    (h : wpList P ops Q rest (a.put o.dst (.pointer (some ⟨b, i.toNat, none⟩))) W) : wpList P ops Q (o :: rest) a W := by
  obtain ⟨x, y, ho, hx, hy⟩ := ho
  refine Kd.event_run hgd ?_ h
  cases hq : P.info? te with
  | none => simp [hq] at hs
  | some ie =>
    have hsz : ie.size = 1 := by simpa [hq] using hs
    simp [execOp, ho, hx, hy, Instr.indexAt, asIntOf, run_underlying hu, Instr.sureAddr, h0, h1, sizeOf, typeInfo, hq, hsz, Result.andThen, Sem.run_bind, Addr.add]
    intro hz; omega
theorem arr_get_event {W : World} (hgd : o.guard = none) {N : Tmp} (_hd : o.dst = some N) (t : TypeId) {tb : TypeId} {b : Nat} {l : List V} (i : Int) (d : V) (ho : ∃ x, o.op = .load t x ∧ a.eval x = .pointer (some ⟨b, i.toNat, none⟩))
    (hag : ∀ w, (isAgg t).run P w = .ok false w) (hi : i.toNat < l.length) (hb : W.heap[b]? = some (.cells (l.map ev).toArray tb (0, 0)))
    (h : wpList P ops Q rest (a.put o.dst (ev (arAt l i d))) W) : wpList P ops Q (o :: rest) a W := by
  obtain ⟨x, ho, hx⟩ := ho
  refine Kd.event_run hgd ?_ h
  have hc : W.cell? ⟨b, i.toNat, none⟩ = some (ev (arAt l i d)) := by
    rw [cell_of_row W b i.toNat _ tb (0, 0) hb]
    simp [arAt, hi]
  simp [execOp, ho, hx, Instr.loadAt, Instr.sureAddr, loadVar, hag, hc, Result.andThen, Sem.run_bind]
theorem arr_put_event {W : World} (hgd : o.guard = none) (t : TypeId) {tb : TypeId} {b : Nat} {l : List V} (i : Int) (v : V) (ho : ∃ x y, o.op = .store t x y ∧ a.eval x = .pointer (some ⟨b, i.toNat, none⟩) ∧ a.eval y = ev v) (hn : o.dst = none)
    (hi : (P.info? t).map (·.size) = some 1) (h1 : ∀ v, (ev v).oneCell' = true) (hl : i.toNat < l.length) (hb : W.heap[b]? = some (.cells (l.map ev).toArray tb (0, 0)))
    (h : ∀ w1, w1.heap[b]? = some (.cells ((l.set i.toNat v).map ev).toArray tb (0, 0)) → W.grownBy w1 (some b) → wpList P ops Q rest a w1) : wpList P ops Q (o :: rest) a W := by
  obtain ⟨x, y, ho, hx, hy⟩ := ho
  have hc : W.cell? ⟨b, i.toNat, none⟩ = some (ev l[i.toNat]) := by
    rw [cell_of_row W b i.toNat _ tb (0, 0) hb]
    simp [hl]
  have hf : W.frozen? ⟨b, i.toNat, none⟩ = false := blk_frozen hb i.toNat
  have hrun : (storeVar t ⟨b, i.toNat, none⟩ (ev v)).run P W = .ok () (W.setCell ⟨b, i.toNat, none⟩ (ev v)) := by
    cases hq : P.info? t with
    | none => simp [hq] at hi
    | some ie => exact Go.Lib.rl_storeVar_one t ie hq (by simpa [hq] using hi) _ _ _ (h1 v) W hc hf
  have hlt := blk_lt hb
  have e2 : (W.setCell ⟨b, i.toNat, none⟩ (ev v)).heap[b]? = some (.cells ((l.set i.toNat v).map ev).toArray tb (0, 0)) := by
    have := blk_put (cs := (l.map ev).toArray) hb i.toNat (ev v) (cs' := ((l.map ev).toArray).setIfInBounds i.toNat (ev v)) rfl
    rw [this]
    congr 2
    apply Array.ext'
    simp [List.map_set]
  have H := h (W.setCell ⟨b, i.toNat, none⟩ (ev v)) e2 ⟨rfl, rfl, rfl, by simp, fun j _ hj => Below.heap_setCell W ⟨b, i.toNat, none⟩ (ev v) j (fun e => hj (by rw [e]))⟩
  refine wpList_plain hgd fun K' hK' => ?_
  unfold Oper.wp
  simp [execOp, ho, hx, hy, Instr.storeAt, Instr.sureAddr, hrun, Result.andThen]
  refine hK' _ _ ?_
  rw [hn]
  exact H
theorem arr_all_event {W : World} (hgd : o.guard = none) {N : Tmp} (_hd : o.dst = some N) (t : TypeId) {tb te : TypeId} {n b : Nat} {l : List V} (ho : ∃ x, o.op = .load t x ∧ a.eval x = .pointer (some ⟨b, 0, none⟩))
    (hu : P.underlying t = some (.array n te)) (hi : (P.info? t).map (·.size) = some l.length) (hb : W.heap[b]? = some (.cells (l.map ev).toArray tb (0, 0)))
    (h : wpList P ops Q rest (a.put o.dst (.agg (l.map ev).toArray)) W) : wpList P ops Q (o :: rest) a W := by
  obtain ⟨x, ho, hx⟩ := ho
  refine Kd.event_run hgd ?_ h
  have hl := run_loadVar_row (P := P) W b tb t _ (0, 0) _ hb hu rfl (by simpa using hi)
  simp [execOp, ho, hx, Instr.loadAt, Instr.sureAddr, hl, Result.andThen, Sem.run_bind]
theorem run_equalIn_arr [BEq V] [LawfulBEq V] (d : Nat) (t e : TypeId) (n : Nat) (ht : P.underlying t = some (.array n e)) (hag : ∀ w, (isAgg e).run P w = .ok false w) (hsz : ∀ w, (sizeOf e).run P w = .ok 1 w) (heq : ∀ d a b w, (Op.equalIn (d + 1) e (ev a) (ev b)).run P w = .ok (a == b) w)
    (w : World) (xs ys : List V) (hx : xs.length = n) (hy : ys.length = n) :
    (Op.equalIn (d + 2) t (.agg (xs.map ev).toArray) (.agg (ys.map ev).toArray)).run P w = .ok (xs == ys) w := by
  have hall : (xs == ys) = (List.range n).all (fun i => (xs[i]? == ys[i]?)) := by
    rw [Bool.eq_iff_iff]
    simp only [beq_iff_eq, List.all_eq_true, List.mem_range]
    constructor
    · intro e i _; rw [e]
    · intro h
      apply List.ext_getElem?
      intro i
      by_cases hi : i < n
      · exact h i hi
      · rw [List.getElem?_eq_none (by omega), List.getElem?_eq_none (by omega)]
  rw [hall, List.range_eq_range', Op.equalIn]
  simp only [Sem.run_bind, run_underlying ht, Result.andThen_ok, hsz, Std.Legacy.Range.forIn_eq_forIn_range', Std.Legacy.Range.size, Nat.sub_zero, Nat.add_sub_cancel, Nat.div_one]
  have hl : ∀ i ∈ List.range' 0 n 1, i < n := fun i hi => by simpa using (List.mem_range'_1.1 hi).2
  generalize List.range' 0 n 1 = l at hl ⊢
  induction l with
  | nil => simp
  | cons i l ih =>
    have hi : i < n := hl i (by simp)
    have px : (part e (xs.map ev).toArray (i * 1)).run P w = .ok (ev (xs[i]'(by omega))) w := by
      simp [part, hag, show i < xs.length by omega, Sem.run_bind, Result.andThen]
    have py : (part e (ys.map ev).toArray (i * 1)).run P w = .ok (ev (ys[i]'(by omega))) w := by
      simp [part, hag, show i < ys.length by omega, Sem.run_bind, Result.andThen]
    simp only [List.forIn_cons, Sem.run_bind, px, py, heq, Result.andThen_ok, List.all_cons]
    have e1 : (xs[i]? == ys[i]?) = (xs[i]'(by omega) == ys[i]'(by omega)) := by
      rw [List.getElem?_eq_getElem (show i < xs.length by omega), List.getElem?_eq_getElem (show i < ys.length by omega)]
      rfl
    rw [e1]
    cases hb : (xs[i]'(by omega) == ys[i]'(by omega))
    · simp
    · simp only [Bool.not_true, Bool.false_eq_true, if_false, Sem.run_pure, Result.andThen_ok, Bool.true_and]
      exact ih fun j hj => hl j (by simp [hj])
theorem eq_bools {e : TypeId} (he : P.underlying e = some .bool) : ∀ d (a b : Bool) w, (Op.equalIn (d + 1) e (.bool a) (.bool b)).run P w = .ok (a == b) w := by
  intro d a b w
  simp [Op.equalIn, Sem.run_bind, run_underlying he, Result.andThen]
theorem eq_ints {e : TypeId} {k : IntKind} (he : P.underlying e = some (.int k)) : ∀ d (a b : Int) w, (Op.equalIn (d + 1) e (.int k a) (.int k b)).run P w = .ok (a == b) w := by
  intro d a b w
  simp [Op.equalIn, Sem.run_bind, run_underlying he, Result.andThen]
theorem arr_eq_event [BEq V] [LawfulBEq V] {W : World} (hgd : o.guard = none) {N : Tmp} (_hd : o.dst = some N) (t : TypeId) {te t2 : TypeId} {n : Nat} (xs ys : List V) (ho : ∃ x y, o.op = .binOp .eql t x y t2 ∧ a.eval x = .agg (xs.map ev).toArray ∧ a.eval y = .agg (ys.map ev).toArray)
    (hu : P.underlying t = some (.array n te)) (hag : ∀ w, (isAgg te).run P w = .ok false w) (hsz : ∀ w, (sizeOf te).run P w = .ok 1 w) (heq : ∀ d a b w, (Op.equalIn (d + 1) te (ev a) (ev b)).run P w = .ok (a == b) w)
    (hx : xs.length = n) (hy : ys.length = n) (hg : P.eqGuardType P.depth t = false) (h : wpList P ops Q rest (a.put o.dst (.bool (xs == ys))) W) : wpList P ops Q (o :: rest) a W := by
  obtain ⟨x, y, ho, ex, ey⟩ := ho
  refine Kd.event_run hgd ?_ h
  have h1 := run_equalIn_arr (ev := ev) 9998 t te n hu hag hsz heq W xs ys hx hy
  have h2 := run_eqGuard_agg (w := W) .eql t x y (xs.map ev).toArray (ys.map ev).toArray hg
  have h3 : (binOp .eql t (.agg (xs.map ev).toArray) (.agg (ys.map ev).toArray)).run P W = .ok (.bool (xs == ys)) W := by rw [run_eql_struct, h1]; rfl
  simp [execOp, ho, ex, ey, h2, h3, Result.andThen, Sem.run_bind]
end
end Go.Proofs.YtobkiheihjdanaaDoor.MapW
