/- The functional machine: tables of types, functions by fuel. -/
import Derived.Test.YtmbcblabfgepfaaDoorFmY
import Derived.Below
set_option autoImplicit true
set_option linter.unusedVariables false
set_option linter.unusedSimpArgs false
set_option linter.unusedSectionVars false
namespace Go.Fm
variable [Strict]

structure TRow where
  t : Nat
  k : Kind
  most : Nat
  elem : Nat
  eq : Bool
  mp : Option (Nat × Nat) := none
def findT : List TRow → Nat → Option TRow
  | [], _ => none
  | r :: l, t => cond (Nat.beq t r.t) (some r) (findT l t)
def ctxOf (T : List TRow) : Ctx where
  kd t := match findT T t with | some r => r.k | none => .unit
  fn _ := none
  most t := match findT T t with | some r => r.most | none => 0
  elem t := match findT T t with | some r => r.elem | none => 0
  eqs t := match findT T t with | some r => r.eq | none => false
  mp t := match findT T t with | some r => r.mp | none => none
def rowB (P : Program) (T : List TRow) (r : TRow) : Bool :=
  (tyOK P (ctxOf T).kd r.t || (r.mp.isSome && (match r.k with | .unit => true | _ => false))) && (match P.underlying r.t with
  | some (.slice te) => Nat.beq r.elem te && (match P.info? te with | some i => Nat.ble (Nat.mul r.most i.bytes) 140737488355328 && Nat.ble r.most maxLen && Nat.ble 1 i.bytes | none => false)
  | _ => true) && (!r.eq || eqTop P (ctxOf T).kd r.t) && (match r.mp with | some (kt, et) => (match P.underlying r.t with | some (.map kt' et') => Nat.beq kt kt' && Nat.beq et et' | _ => false) | none => true)
theorem findT_some {t : Nat} {r : TRow} : ∀ {T : List TRow}, findT T t = some r → r ∈ T ∧ r.t = t
  | [], h => by cases h
  | r' :: T, h => by
    unfold findT at h
    cases hb : Nat.beq t r'.t with
    | true => rw [hb] at h; cases h; exact ⟨by simp, (Nat.eq_of_beq_eq_true hb).symm⟩
    | false => rw [hb] at h; obtain ⟨h1, h2⟩ := findT_some h; exact ⟨by simp [h1], h2⟩
theorem typesOK_of {P : Program} {T : List TRow} (h : T.all (rowB P T) = true) : TypesOK P (ctxOf T) := by
  have key : ∀ t, (ctxOf T).kd t ≠ .unit → ∃ r ∈ T, r.t = t ∧ findT T t = some r ∧ rowB P T r = true := by
    intro t ht
    cases hf : findT T t with
    | none => simp [ctxOf, hf] at ht
    | some r =>
      obtain ⟨h1, h2⟩ := findT_some hf
      exact ⟨r, h1, h2, rfl, List.all_eq_true.1 h r h1⟩
  have sl : ∀ t te e, P.underlying t = some (.slice te) → (ctxOf T).kd t = .slice e → (ctxOf T).elem t = te ∧ ∃ i, P.info? te = some i ∧ (ctxOf T).most t * i.bytes ≤ 140737488355328 ∧ (ctxOf T).most t ≤ maxLen ∧ 1 ≤ i.bytes := by
    intro t te e hu hk
    obtain ⟨r, h1, h2, h3, h4⟩ := key t (by rw [hk]; simp)
    simp only [rowB, Bool.and_eq_true, h2, hu] at h4
    obtain ⟨⟨⟨_, h5, h6⟩, _⟩, _⟩ := h4
    have he : (ctxOf T).elem t = r.elem := by simp [ctxOf, h3]
    have hm : (ctxOf T).most t = r.most := by simp [ctxOf, h3]
    refine ⟨he.trans (Nat.eq_of_beq_eq_true h5), ?_⟩
    cases hi : P.info? te with
    | none => rw [hi] at h6; cases h6
    | some i =>
      rw [hi] at h6
      simp only [Bool.and_eq_true] at h6
      rw [hm]
      exact ⟨i, rfl, Nat.le_of_ble_eq_true h6.1.1, Nat.le_of_ble_eq_true h6.1.2, Nat.le_of_ble_eq_true h6.2⟩
  refine ⟨fun t ht => ?_, fun t te e h1 h2 => (sl t te e h1 h2).1, fun t te e h1 h2 => (sl t te e h1 h2).2, fun t he => ?_, fun t kt et hm => ?_⟩
  · obtain ⟨r, h1, h2, h3, h4⟩ := key t ht
    simp only [rowB, Bool.and_eq_true, Bool.or_eq_true, h2] at h4
    rcases h4.1.1.1 with h5 | h5
    · exact h5
    · exfalso
      have hk : (ctxOf T).kd t = r.k := by simp [ctxOf, h3]
      rw [hk] at ht
      cases hrk : r.k <;> rw [hrk] at h5 ht <;> simp at h5 ht
  · cases hf : findT T t with
    | none => simp [ctxOf, hf] at he
    | some r =>
      obtain ⟨h1, h2⟩ := findT_some hf
      have h3 := List.all_eq_true.1 h r h1
      simp only [rowB, Bool.and_eq_true, h2] at h3
      have h5 : r.eq = true := by simpa [ctxOf, hf] using he
      have := h3.1.2
      rw [h5] at this
      simpa using this
  · cases hf : findT T t with
    | none => simp [ctxOf, hf] at hm
    | some r =>
      obtain ⟨h1, h2⟩ := findT_some hf
      have h3 := List.all_eq_true.1 h r h1
      simp only [rowB, Bool.and_eq_true, h2] at h3
      have h5 : r.mp = some (kt, et) := by simpa [ctxOf, hf] using hm
      have h6 := h3.2
      rw [h5] at h6
      simp only at h6
      split at h6
      · rename_i kt' et' hu
        simp only [Bool.and_eq_true] at h6
        rw [hu, Nat.eq_of_beq_eq_true h6.1, Nat.eq_of_beq_eq_true h6.2]
      · cases h6

/-- places by fuel -/
noncomputable def Def.H (d : Def) (cxs : Nat → Ctx) : Nat → (n : Nat) → LT (d.L n) → Option d.res.T
  | 0, _, _ => none
  | k + 1, n, v => d.place (cxs k) (Def.H d cxs k) n v
noncomputable def Def.F (d : Def) (cxs : Nat → Ctx) (k : Nat) (v : ArgsT d.ps) : Option d.res.T := d.body (cxs k) (d.H cxs k) v
noncomputable def Def.fnAt (d : Def) (cxs : Nat → Ctx) (k : Nat) : Fn := ⟨d.ps, d.res, d.F cxs k, d.sh⟩
def defB (fx : List Nat) (d : Def) : Bool := Nat.ble (match d.sh with | [] => d.ps.length | sh => sh.length) d.fn.ntmps && resB d && decide (regs d.code).Nodup && (d.res.backs.all fun i => Nat.blt i d.ps.length) && decide (fx = d.res.backs.map (realOf d.sh)) && shB d.sh d.ps
theorem Def.con2 {P : Program} {G : World → Prop} {f : Nat} {cxs : Nat → Ctx} (hm : P.follows .mixedOrders = true) (hT : ∀ k, TypesOK P (cxs k)) (hF : ∀ k, FnsOK P G (cxs k)) (d : Def) (hf : P.funcs[f]? = some d.fn) (hb : d.fn.body = some d.code)
    (hc : ∀ k, codeOK (cxs k) d.fn.ntmps d.code = true) {fx : List Nat} (hx : ∀ k, (cxs k).fx = fx) (hd : defB fx d = true) (k : Nat) : Con P G f (d.fnAt cxs k) := by
  simp only [defB, Bool.and_eq_true, decide_eq_true_eq, List.all_eq_true] at hd
  obtain ⟨⟨⟨hd, hb1⟩, hb2⟩, hb3⟩ := hd
  exact Def.con hm hT hF d hf hb hc hd.2 hd.1.2 hb3 (Nat.le_of_ble_eq_true hd.1.1) (fun k => (hx k).trans hb2) (fun i hi => Nat.le_of_ble_eq_true (hb1 i hi)) (H := d.H cxs) (fun _ _ => rfl) (fun _ _ _ _ => rfl) (F := d.F cxs) (fun _ _ => rfl) k

/-- a list of places, looked up -/
def lookL : List (Nat × List LM) → Nat → List LM
  | [], _ => []
  | (m, l) :: r, n => cond (Nat.beq n m) l (lookL r n)
/-- from some fuel on -/
def Ev {α : Type} (p : Nat → Option α) (v : α) : Prop := ∃ N, ∀ k, N ≤ k → p k = some v
theorem Ev.here {α : Type} {p : Nat → Option α} {v : α} (h : ∀ k, p k = some v) : Ev p v := ⟨0, fun k _ => h k⟩
theorem Ev.succ {α : Type} {p : Nat → Option α} {v : α} (h : Ev (fun k => p (k + 1)) v) : Ev p v := by
  obtain ⟨N, h⟩ := h
  refine ⟨N + 1, fun k hk => ?_⟩
  obtain ⟨j, rfl⟩ : ∃ j, k = j + 1 := ⟨k - 1, by omega⟩
  exact h j (by omega)
theorem Ev.bind {α β : Type} {p : Nat → Option α} {v : α} {q : Nat → α → Option β} {u : β} (h : Ev p v) (h' : Ev (fun k => q k v) u) : Ev (fun k => (p k).bind (q k)) u := by
  obtain ⟨N, h⟩ := h
  obtain ⟨M, h'⟩ := h'
  refine ⟨max N M, fun k hk => ?_⟩
  show (p k).bind (q k) = some u
  rw [h k (by omega)]
  exact h' k (by omega)
end Go.Fm
namespace Go.Fm
variable [Strict]
/-- a contract of the library: a function of two texts -/
theorem Con.text2 (hs : ¬ Strict.t) {P : Program} {G : World → Prop} {f : Nat} (g : ByteArray → ByteArray → Option ByteArray)
    (hc : ∀ (a b r : ByteArray) (w : World), g a b = some r → Calls P f #[.string a, .string b] w fun e w' => e = .returned (.string r) ∧ RowKit.Below w.heap.size w w') : Con P G f ⟨[.val .str, .val .str], .val .str, fun v => g v.1 v.2.1, []⟩ := by
  intro v r w args bl X h ha hbl hX hG
  obtain ⟨u0, us, rfl, h0, u1, us', rfl, h1, rfl, rfl⟩ := ha
  rw [h0.str_inv, h1.str_inv]
  refine (hc v.1 v.2.1 r w h).mono ?_
  rintro e w' ⟨rfl, hb⟩
  refine ⟨_, rfl, ⟨hb.os, ⟨hb.tape, fun h => (hs h).elim⟩, hb.output, hb.size, fun b hb' _ => hb.block b hb'⟩, [], ⟨rfl, _, rfl, Reg.str r⟩, List.nodup_nil, by simp⟩
/-- as a rule it is not told -/
instance (priority := low) lax : Strict := ⟨False⟩
/-- told -/
@[reducible] def told : Strict := ⟨True⟩
end Go.Fm
