/- The functional machine: the program's types, and what the Go machine's single steps come to. -/
import Derived.Test.YtmbcblabfgepfaaDoorFmC
import Derived.Laws.CopyRow
set_option autoImplicit true
set_option linter.unusedVariables false
set_option linter.unusedSimpArgs false
set_option linter.unusedSectionVars false
namespace Go.Fm
variable [Strict]

def sameV : Value → Value → Bool
  | .int k n, .int k' n' => decide (k = k') && decide (n = n')
  | .bool a, .bool b => a == b
  | .string a, .string b => decide (a = b)
  | .slice none 0 0, .slice none 0 0 => true
  | .nilFunc, .nilFunc => true
  | .pointer none, .pointer none => true
  | .nilIface, .nilIface => true
  | _, _ => false
theorem sameV_eq : ∀ {u v : Value}, sameV u v = true → u = v := by
  intro u v h
  unfold sameV at h
  split at h <;> simp_all
def sameVs : List Value → List Value → Bool
  | [], [] => true | u :: l, v :: m => sameV u v && sameVs l m | _, _ => false
theorem sameVs_eq : ∀ {l m : List Value}, sameVs l m = true → l = m
  | [], [], _ => rfl
  | [], _ :: _, h => by simp [sameVs] at h
  | _ :: _, [], h => by simp [sameVs] at h
  | u :: l, v :: m, h => by
    simp only [sameVs, Bool.and_eq_true] at h
    rw [sameV_eq h.1, sameVs_eq h.2]

def infoOK (P : Program) (t : TypeId) (k : Kind) : Bool :=
  match P.info? t with
  | some i => decide (i.size = width k) && (match i.zero with | some z => sameVs z.cells.toList (zcells k) && (match z with | .agg _ => aggB k | .tuple _ => false | _ => !aggB k) | none => false)
  | none => false
def fieldsOK (P : Program) (kd : Nat → Kind) : List Field → Kind → Nat → Bool
  | f :: g :: l, .pair a b, o => decide (f.offset = o) && decide (kd f.type = a) && infoOK P f.type a && decide (width a ≠ 0) && fieldsOK P kd (g :: l) b (o + width a)
  | [f], k, o => decide (f.offset = o) && decide (kd f.type = k) && infoOK P f.type k && decide (width k ≠ 0) && (match k with | .pair _ _ => false | _ => true)
  | [], .unit, _ => true
  | _, _, _ => false
def tyOK (P : Program) (kd : Nat → Kind) (t : TypeId) : Bool :=
  match P.underlying t, kd t with
  | some (.int k), .int k' => decide (k = k') && infoOK P t (.int k')
  | some .bool, .bool => infoOK P t .bool
  | some .string, .str => infoOK P t .str
  | some (.struct fs), .struct a => fieldsOK P kd fs.toList a 0 && infoOK P t (.struct a) && (wfB (.struct a)).1
  | some (.slice e), .slice k => decide (kd e = k) && infoOK P t (.slice k) && infoOK P e k && decide (width k ≠ 0) && (aggB k || decide (width k = 1))
  | some (.array n e), .arr m k => decide (n = m) && (wfB (.arr m k)).1 && decide (kd e = k) && infoOK P t (.arr m k) && infoOK P e k && decide (width k ≠ 0) && (aggB k || decide (width k = 1))
  | some (.pointer e), .ref k => decide (kd e = k)
  | some (.interface _), .err => infoOK P t .err
  | some (.func _ _ _), .fnk => infoOK P t .fnk
  | _, _ => false

section
variable {P : Program} {kd : Nat → Kind} {t : TypeId}
structure Info (P : Program) (t : TypeId) (k : Kind) : Prop where
  ex : ∃ i z, P.info? t = some i ∧ i.size = width k ∧ i.zero = some z ∧ z.cells.toList = zcells k ∧ (aggB k = true → ∃ cs, z = .agg cs) ∧ (aggB k = false → z.oneCell' = true)
theorem Info.of {k : Kind} (h : infoOK P t k = true) : Info P t k := by
  unfold infoOK at h
  cases hi : P.info? t with
  | none => simp [hi] at h
  | some i =>
    simp only [hi, Bool.and_eq_true, decide_eq_true_eq] at h
    obtain ⟨h1, h2⟩ := h
    cases hz : i.zero with
    | none => simp [hz] at h2
    | some z =>
      simp only [hz, Bool.and_eq_true] at h2
      refine ⟨i, z, hi, h1, hz, sameVs_eq h2.1, ?_, ?_⟩
      · intro hk; cases z <;> simp [hk] at h2 ⊢
      · intro hk; cases z <;> simp [hk, Value.oneCell'] at h2 ⊢
theorem Info.sizeOf {k : Kind} (h : Info P t k) (w : World) : (sizeOf t).run P w = .ok (width k) w := by
  obtain ⟨i, z, h1, h2, _⟩ := h.ex
  simp [Go.sizeOf, typeInfo, h1, h2]
theorem Info.zero {k : Kind} (h : Info P t k) : ∃ z, (∀ w, (zeroValue t).run P w = .ok z w) ∧ z.cells.toList = zcells k ∧ (aggB k = true → ∃ cs, z = .agg cs) ∧ (aggB k = false → z.oneCell' = true) := by
  obtain ⟨i, z, h1, h2, h3, h4, h5, h6⟩ := h.ex
  exact ⟨z, fun w => by simp [zeroValue, typeInfo, h1, h3], h4, h5, h6⟩

/-- what tyOK says, kind by kind -/
theorem tyOK_slice {e : Kind} (h : tyOK P kd t = true) (hk : kd t = .slice e) : ∃ te, P.underlying t = some (.slice te) ∧ kd te = e ∧ Info P te e ∧ Info P t (.slice e) ∧ width e ≠ 0 ∧ (aggB e = true ∨ width e = 1) := by
  unfold tyOK at h
  rw [hk] at h
  cases hu : P.underlying t with
  | none => simp [hu] at h
  | some d => cases d <;> simp [hu] at h; exact ⟨_, rfl, h.1.1.1.1, Info.of h.1.1.2, Info.of h.1.1.1.2, h.1.2, h.2⟩
theorem tyOK_struct {a : Kind} (h : tyOK P kd t = true) (hk : kd t = .struct a) : ∃ fs, P.underlying t = some (.struct fs) ∧ fieldsOK P kd fs.toList a 0 = true ∧ Info P t (.struct a) ∧ (wfB (.struct a)).1 = true := by
  unfold tyOK at h
  rw [hk] at h
  cases hu : P.underlying t with
  | none => simp [hu] at h
  | some d => cases d <;> simp [hu] at h; exact ⟨_, rfl, h.1.1, Info.of h.1.2, h.2⟩
theorem tyOK_str (h : tyOK P kd t = true) (hk : kd t = .str) : P.underlying t = some .string := by
  unfold tyOK at h
  rw [hk] at h
  cases hu : P.underlying t with
  | none => simp [hu] at h
  | some d => cases d <;> simp [hu] at h; rfl
theorem tyOK_intk {k : IntKind} (h : tyOK P kd t = true) (hk : kd t = .int k) : P.underlying t = some (.int k) := by
  unfold tyOK at h
  rw [hk] at h
  cases hu : P.underlying t with
  | none => simp [hu] at h
  | some d => cases d <;> simp [hu] at h; rw [h.1]

theorem fieldsOK_get : ∀ {fs : List Field} {a : Kind} {o f : Nat} {o' : Nat} {k : Kind}, fieldsOK P kd fs a o = true → fieldOff a f = some (o', k) →
    ∃ fl, fs[f]? = some fl ∧ fl.offset = o + o' ∧ kd fl.type = k ∧ Info P fl.type k ∧ width k ≠ 0
  | [], a, o, f, o', k, h, hf => by
    cases a <;> simp [fieldsOK] at h
    cases f <;> simp [fieldOff] at hf
  | [fl], a, o, f, o', k, h, hf => by
    cases a <;> simp [fieldsOK] at h <;> cases f <;> simp [fieldOff] at hf <;> (obtain ⟨rfl, rfl⟩ := hf; exact ⟨fl, rfl, by simp [h.1.1.1], h.1.1.2, Info.of h.1.2, by simpa using h.2⟩)
  | fl :: g :: l, a, o, f, o', k, h, hf => by
    cases a with
    | pair a b =>
      simp only [fieldsOK, Bool.and_eq_true, decide_eq_true_eq] at h
      obtain ⟨⟨⟨⟨h1, h2⟩, h3⟩, h4⟩, h5⟩ := h
      cases f with
      | zero =>
        simp [fieldOff] at hf; obtain ⟨rfl, rfl⟩ := hf
        exact ⟨fl, rfl, by simp [h1], h2, Info.of h3, h4⟩
      | succ f =>
        simp only [fieldOff] at hf
        cases hb : fieldOff b f with
        | none => simp [hb] at hf
        | some x =>
          obtain ⟨ob, kb⟩ := x
          simp [hb] at hf; obtain ⟨rfl, rfl⟩ := hf
          obtain ⟨fl', e1, e2, e3, e4, e5⟩ := fieldsOK_get h5 hb
          exact ⟨fl', by simpa using e1, by rw [e2]; omega, e3, e4, e5⟩
    | _ => simp [fieldsOK] at h

theorem tyOK_agg (h : tyOK P kd t = true) (w : World) : (isAgg t).run P w = .ok (aggB (kd t)) w := by
  unfold tyOK at h
  cases hu : P.underlying t with
  | none => simp [hu] at h
  | some d =>
    have := run_underlying hu w
    unfold isAgg
    rw [Sem.run_bind, this]
    cases d <;> simp [hu] at h <;> (split at h <;> simp_all [aggB])
/-- types of which variables are loaded -/
def oneB (k : Kind) : Bool := aggB k || decide (width k = 1)
theorem tyOK_info (h : tyOK P kd t = true) (hr : ∀ a, kd t ≠ .ref a) : Info P t (kd t) := by
  unfold tyOK at h
  cases hu : P.underlying t with
  | none => simp [hu] at h
  | some d =>
    cases hk : kd t <;> cases d <;> simp [hu, hk] at h <;> first
      | exact (hr _ hk).elim
      | exact Info.of (by simp [h])
      | skip
end

theorem addr_add (b o n : Nat) : (⟨b, o, none⟩ : Addr).add n = ⟨b, o + n, none⟩ := by
  unfold Addr.add; split <;> simp_all
theorem cells_at {w : World} {b : Nat} {blk : Array Value} {ty : TypeId} {fr : Nat × Nat} (hb : w.heap[b]? = some (.cells blk ty fr)) (o n : Nat) (hl : o + n ≤ blk.size) :
    ∀ j v, ((blk.toList.drop o).take n)[j]? = some v → w.cell? ((⟨b, o, none⟩ : Addr).add j) = some v := by
  intro j v hv
  rw [addr_add, cell_of_row w b _ blk ty fr hb]
  rw [List.getElem?_take] at hv
  split at hv
  · rw [List.getElem?_drop] at hv; simpa using hv
  · cases hv
theorem run_cells {P : Program} {w : World} {b : Nat} {blk : Array Value} {ty : TypeId} {fr : Nat × Nat} (hb : w.heap[b]? = some (.cells blk ty fr)) (o n : Nat) (hl : o + n ≤ blk.size) :
    (loadCells ⟨b, o, none⟩ n).run P w = .ok ((blk.toList.drop o).take n).toArray w := by
  have h := run_loadCells_list (P := P) w ⟨b, o, none⟩ ((blk.toList.drop o).take n) (cells_at hb o n hl)
  rwa [show ((blk.toList.drop o).take n).length = n by simp; omega] at h
theorem run_loadVar {P : Program} {kd : Nat → Kind} {t : TypeId} (hT : tyOK P kd t = true) (hr : oneB (kd t) = true) (hi : Info P t (kd t)) {w : World} {b : Nat} {blk : Array Value} {ty : TypeId} {fr : Nat × Nat}
    (hb : w.heap[b]? = some (.cells blk ty fr)) (o : Nat) (hl : o + width (kd t) ≤ blk.size) :
    (loadVar t ⟨b, o, none⟩).run P w = .ok (regOf (kd t) ((blk.toList.drop o).take (width (kd t)))) w := by
  unfold loadVar regOf
  rw [Sem.run_bind, tyOK_agg hT w, Result.andThen_ok]
  by_cases hc : aggB (kd t) = true
  · simp [hc, hi.sizeOf w, run_cells hb o _ hl]
  · have h1 : width (kd t) = 1 := by simpa [oneB, hc] using hr
    rw [h1] at hl
    have hlt : o < blk.size := by omega
    have hcell : w.cell? ⟨b, o, none⟩ = some blk[o] := by rw [cell_of_row w b _ blk ty fr hb]; simp [hlt]
    simp only [hc, h1, Bool.false_eq_true, if_false, run_load, hcell]
    congr 1
    rw [List.drop_eq_getElem_cons (by simpa using hlt)]
    simp
theorem run_storeVar {P : Program} {t : TypeId} {k : Kind} (hi : Info P t k) {w : World} {b : Nat} {blk : Array Value} {ty : TypeId}
    (hb : w.heap[b]? = some (.cells blk ty (0, 0))) (o : Nat) (hl : o + width k ≤ blk.size) {u : Value} (hu : u.cells.size = width k) (h1 : ∀ v ∈ u.cells.toList, v.oneCell' = true) :
    (storeVar t ⟨b, o, none⟩ u).run P w = .ok () (w.setRow b (blk.toList.take o ++ u.cells.toList ++ blk.toList.drop (o + width k)).toArray) := by
  unfold storeVar
  rw [Sem.run_bind, hi.sizeOf w, Result.andThen_ok]
  rw [if_neg (by simp [hu])]
  have h := run_storeCells_at P b o ty u.cells.toList 0 blk w hb (by simp [hu]; exact hl) h1
  simp only [Nat.add_zero] at h
  rw [h]
  simp [hu]
end Go.Fm
