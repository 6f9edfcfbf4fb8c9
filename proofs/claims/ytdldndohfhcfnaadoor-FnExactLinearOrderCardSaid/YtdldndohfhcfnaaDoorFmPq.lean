/- The functional machine: functions that are handed a pointer to a struct, and turn it. -/
import Derived.Test.YtdldndohfhcfnaaDoorFmZ
set_option autoImplicit true
set_option linter.unusedVariables false
set_option linter.unusedSimpArgs false
set_option linter.unusedSectionVars false
namespace Go.Fm
variable [Strict]

structure DefQ where
  fn : Func
  code : Code
  k : Kind
  ps : List PS
  res : RS
  out : RS
  pl : List Nat
  L : Nat → List LM
@[reducible] def DefQ.rs (d : DefQ) : RS := .pair d.res (.agg d.out)
/-- at the beginning: the pointer, and what it points to -/
def DefQ.st0 (d : DefQ) (v : ArgsT d.ps) : St :=
  { slots := fun t => cond (Nat.beq t 0) (.box d.ps.length []) .dead,
    nodes := upd (argsSt 0 d.ps v St.empty).nodes d.ps.length (some (.var d.k (.agg d.k ((List.range d.ps.length).map (argsSt 0 d.ps v St.empty).slots)))),
    used := upd (argsSt 0 d.ps v St.empty).used d.ps.length true, gen := 1 }
def resQ {R : Type} (b : Nat) : Option (R × List Nat × List Nat) → Option R
  | some (v, ids, ls) => cond (apartB (b :: ids) && ls.all fun q => !((b :: ids).contains q)) (some v) none
  | none => none
def DefQ.fin (d : DefQ) (cx : Ctx) (e : Ext) (st : St) : Option d.rs.T :=
  match e with
  | .norm | .ret => (match st.slots 0 with
    | .box b [] => (match st.nodes b with
      | some (.var k c) => if k = d.k then (match resSlots cx st d.fn.results.toList with
        | some [x] => resQ b (resOne st (fun _ => .dead) d.rs [x, c])
        | _ => none) else none
      | _ => none)
    | _ => none)
  | _ => none
noncomputable def DefQ.body (d : DefQ) (cx : Ctx) (H : (n : Nat) → LT (d.L n) → Option d.rs.T) (v : ArgsT d.ps) : Option d.rs.T :=
  codeS cx d.pl d.L H d.code (d.fin cx) (d.st0 v)
noncomputable def DefQ.place (d : DefQ) (cx : Ctx) (H : (n : Nat) → LT (d.L n) → Option d.rs.T) (n : Nat) (v : LT (d.L n)) : Option d.rs.T :=
  match atS cx d.pl d.L H n d.code (d.fin cx) with
  | some r => r v
  | none => none
noncomputable def DefQ.H (d : DefQ) (cxs : Nat → Ctx) : Nat → (n : Nat) → LT (d.L n) → Option d.rs.T
  | 0, _, _ => none
  | k + 1, n, v => d.place (cxs k) (DefQ.H d cxs k) n v
noncomputable def DefQ.F (d : DefQ) (cxs : Nat → Ctx) (k : Nat) (v : ArgsT d.ps) : Option d.rs.T := d.body (cxs k) (d.H cxs k) v
noncomputable def DefQ.fnAt (d : DefQ) (cxs : Nat → Ctx) (k : Nat) : PFn := ⟨d.k, d.ps, d.res, d.out, d.F cxs k⟩
def defQB (d : DefQ) : Bool := Nat.ble 1 d.fn.ntmps && Nat.beq d.fn.results.size 1 && decide (regs d.code).Nodup && d.rs.backs.isEmpty && decide (d.k = .struct (chainK (d.ps.map PS.kind))) && (!d.ps.isEmpty) && d.ps.all fun p => oneK p.kind

theorem ConQ.none {P : Program} {G : World → Prop} {f : Nat} {k : Kind} {ps : List PS} {res out : RS} : ConQ P G f ⟨k, ps, res, out, fun _ => none⟩ := fun v r w us g ty bl X h => by cases h
section
variable {P : Program} {cx : Ctx} {st : St} {a : Act} {m : Mem} {w0 : World} {O0 : OX} {n : Nat} {G : World → Prop}

/-- the state at the beginning -/
theorem entryQ {w : World} {d : DefQ} (hB : defQB d = true) {v : ArgsT d.ps} {us : List Value} {g ty : Nat} {bl : List Nat} {X : Nat → Prop} (h : ArgsOK w (fun b => b ∈ g :: bl ∨ X b) d.ps v us bl) (hnd : (g :: bl).Nodup) (hg : w.heap[g]? = some (.cells (catCells us).toArray ty (0, 0)))
    (hX : ∀ b, X b → b < w.heap.size ∧ ¬ b ∈ g :: bl) :
    ∃ m, m.w = w ∧ Rel (d.st0 v) { tmps := #[.pointer (some ⟨g, 0, none⟩)] ++ Array.replicate (d.fn.ntmps - 1) undef, defers := [] } m w ⟨(· ∈ g :: bl), X, fun t => cond (Nat.beq t 0) (some (.pointer (some ⟨g, 0, none⟩))) none⟩ d.fn.ntmps := by
  simp only [defQB, Bool.and_eq_true, decide_eq_true_eq, List.all_eq_true, Bool.not_eq_true'] at hB
  obtain ⟨⟨⟨⟨⟨⟨hn1, _⟩, _⟩, _⟩, hk⟩, hne⟩, hone⟩ := hB
  obtain ⟨hg1, hg2⟩ := List.nodup_cons.1 hnd
  have hpred : (fun b => b ∈ g :: bl ∨ X b) = (fun b => b ∈ bl ∨ (b = g ∨ X b)) := by
    funext b; simp only [List.mem_cons]; exact propext ⟨fun h => by rcases h with (h | h) | h <;> simp [h], fun h => by rcases h with h | h | h <;> simp [h]⟩
  rw [hpred] at h
  have hlen := (toA_all 0 d.ps v us bl h hg2).1
  obtain ⟨m, hw, hR⟩ := entry_flat (X := fun b => b = g ∨ X b) (fx := fun _ => none) h hg2 (fun b hb => by
    rcases hb with rfl | hb
    · exact ⟨lt_of_heap hg, hg1⟩
    · exact ⟨(hX b hb).1, fun hc => (hX b hb).2 (by simp [hc])⟩) (by simp) (Nat.le_refl _)
  have hforms := args_forms h
  generalize hS : argsSt 0 d.ps v St.empty = s at *
  have hall : AllF m (d.ps.map PS.kind) ((List.range d.ps.length).map s.slots) us := by
    refine AllF.of (by simp) (by simpa using hlen) fun j k x u hk hx hu => ?_
    have hj : j < d.ps.length := by rw [← hlen]; exact (List.getElem?_eq_some_iff.1 hu).1
    have hx' : s.slots j = x := by
      rw [List.getElem?_map, List.getElem?_range hj] at hx
      simpa using hx
    have h1 := hR.slot j
    rw [hx'] at h1
    have hu' : ({ tmps := us.toArray ++ Array.replicate (d.ps.length - us.toArray.size) undef, defers := [] } : Act).tmps.getD j undef = u := by
      simp only [Array.getD_eq_getD_getElem?]
      rw [Array.getElem?_append_left (by simpa [hlen] using hj)]
      simp [hu]
    rw [hu'] at h1
    have hfm : ∀ {ks : List Kind} {us : List Value} {j : Nat} {k : Kind} {u : Value}, FormL ks us → ks[j]? = some k → us[j]? = some u → Form k u := by
      intro ks
      induction ks with
      | nil => intro us j k u _ hk _; simp at hk
      | cons k0 ks ih =>
        intro us j k u hf hk hu
        cases us with
        | nil => exact hf.elim
        | cons u0 us =>
          cases j with
          | zero => simp at hk hu; subst hk; subst hu; exact hf.1
          | succ j => exact ih hf.2 (by simpa using hk) (by simpa using hu)
    refine ⟨h1, hfm hforms hk hu, ?_, ?_⟩
    · have := argsSt_fits 0 d.ps v St.empty j k hk
      rwa [Nat.zero_add, hS, hx'] at this
    · rw [List.getElem?_map] at hk
      obtain ⟨p, hp, rfl⟩ := Option.map_eq_some_iff.1 hk
      exact hone p (List.mem_of_getElem? hp)
  have hks : d.ps.map PS.kind ≠ [] := by
    intro h0
    have : d.ps = [] := by simpa using h0
    rw [this] at hne; simp at hne
  have hch := hall.chain hks
  -- the place of the variable is new
  have hNu : s.used d.ps.length = false := by
    obtain ⟨_, hN⟩ := fold_sound (toA 0 d.ps v) St.empty (toA_nodup 0 d.ps v)
    rw [← argsSt_eq 0 d.ps v St.empty, hS] at hN
    rcases hN d.ps.length with ⟨x, hx, h3, _⟩ | ⟨_, _, h5⟩
    · exfalso
      obtain ⟨_, ds, hA⟩ := toA_all 0 d.ps v us bl h hg2
      obtain ⟨j, u, d', h1, h2, h4, _⟩ := hA.fact x hx
      have : j < us.length := (List.getElem?_eq_some_iff.1 h1).1
      omega
    · rw [h5]; rfl
  have hNn : ∀ q x, m.nodes q = some x → q ≠ d.ps.length := fun q x hq e => by
    have := hR.ok.used q x hq
    rw [e, hR.used, hNu] at this; cases this
  let N := d.ps.length
  let c : Slot := .agg d.k ((List.range d.ps.length).map s.slots)
  let m2 : Mem := ⟨w, upd m.nodes N (some (.var d.k c)), upd m.used N true, upd m.loc N (.pointer (some ⟨g, 0, none⟩)), X⟩
  have hm2n : ∀ q z, m2.nodes q = some z → (q = N ∧ z = .var d.k c) ∨ (q ≠ N ∧ m.nodes q = some z) := fun q z hz => by
    by_cases hq : q = N
    · subst hq; simp only [m2, upd_same] at hz; cases hz; exact .inl ⟨rfl, rfl⟩
    · simp only [m2, upd_other _ _ hq] at hz; exact .inr ⟨hq, hz⟩
  have hlN : m2.loc N = .pointer (some ⟨g, 0, none⟩) := by simp [m2, upd_same]
  have hlo : ∀ q, q ≠ N → m2.loc q = m.loc q := fun q h => by simp [m2, upd_other _ _ h]
  have hOO : ∀ b, m2.O b → m.O b := by
    rintro b (⟨q, z, hz, hb⟩ | hb)
    · rcases hm2n q z hz with ⟨rfl, rfl⟩ | ⟨hq, hz'⟩
      · rw [hlN] at hb
        have : b = g := by simpa [Blk, blkOf] using hb.symm
        subst this
        exact .inr (by rw [hR.ok.keeps]; exact .inl rfl)
      · rw [hlo q hq] at hb; exact .inl ⟨q, z, hz', hb⟩
    · exact .inr (by rw [hR.ok.keeps]; exact .inr hb)
  have hle : m.le m2 := by
    refine ⟨⟨fun b _ _ => by show w.heap[b]? = m.w.heap[b]?; rw [hw], fun b _ hb => hOO b hb⟩, fun q hq => ?_, fun q hq => ?_, fun q z hq hz => ?_⟩
    · by_cases h1 : q = N
      · subst h1; simp [m2, upd_same]
      · simp [m2, upd_other _ _ h1, hq]
    · refine hlo q fun h1 => ?_
      subst h1
      rw [hR.used] at hq; rw [hNu] at hq; cases hq
    · rcases hm2n q z hz with ⟨rfl, _⟩ | ⟨_, hz'⟩
      · rw [hR.used] at hq; rw [hNu] at hq; cases hq
      · exact .inr ⟨z, hz', shape.refl z⟩
  have hbl : ∀ b, m.own b → b ∈ bl := by
    rintro b ⟨q, z, hz, hb⟩
    rcases hR.ok.base b ⟨q, z, hz, hb⟩ with h3 | h3
    · have := (hR.ok.node q z hz).blk_lt hb
      rw [hw] at this; omega
    · exact h3
  have hagg : SRel m2 c (.agg (catCells us).toArray) := by
    show SRel m2 (.agg d.k _) _
    simp only [SRel]
    exact ⟨_, us, hk, rfl, SRels.mono hle _ hch⟩
  have hS' : argsSt 0 d.ps v St.empty = s := hS
  have tmp0 : ({ tmps := #[.pointer (some ⟨g, 0, none⟩)] ++ Array.replicate (d.fn.ntmps - 1) undef, defers := [] } : Act).tmps.getD 0 undef = .pointer (some ⟨g, 0, none⟩) := by
    simp only [Array.getD_eq_getD_getElem?]
    rw [Array.getElem?_append_left (by simp)]
    rfl
  refine ⟨m2, rfl, ?_, ?_, ⟨fun q z hz => ?_, fun q z hz => ?_, fun q q' z z' b hz hz' hb hb' => ?_, Frame0.refl w _, fun b hb => .inr ?_, rfl, fun b hb => hX b hb⟩, fun t => ?_, rfl, ?_, fun t u ht => ?_⟩
  · show upd m.nodes N _ = upd (argsSt 0 d.ps v St.empty).nodes d.ps.length _
    rw [hS', hR.nodes]
  · show upd m.used N _ = upd (argsSt 0 d.ps v St.empty).used d.ps.length _
    rw [hS', hR.used]
  · rcases hm2n q z hz with ⟨rfl, rfl⟩ | ⟨hq, hz'⟩
    · refine ⟨g, _, ty, .agg (catCells us).toArray, hlN, hg, by simp [Value.cells], ?_, by simp [c, fitsD, fits], hagg⟩
      exact fits_form (x := c) (by simp [c, fits]) hagg
    · exact (hR.ok.node q z hz').mono hle (hR.ok.used q z hz') fun b _ => by show w.heap[b]? = m.w.heap[b]?; rw [hw]
  · rcases hm2n q z hz with ⟨rfl, rfl⟩ | ⟨hq, hz'⟩
    · simp [m2, upd_same]
    · simp [m2, upd_other _ _ hq, hR.ok.used q z hz']
  · have one : ∀ q z b, m2.nodes q = some z → Blk (m2.loc q) b → q ≠ N → b ∈ bl := fun q z b hz hb hq => by
      rcases hm2n q z hz with ⟨rfl, _⟩ | ⟨_, hz'⟩
      · exact absurd rfl hq
      · rw [hlo q hq] at hb; exact hbl b ⟨q, z, hz', hb⟩
    have two : ∀ b, Blk (m2.loc N) b → b = g := fun b hb => by rw [hlN] at hb; simpa [Blk, blkOf] using hb.symm
    by_cases h1 : q = N <;> by_cases h2 : q' = N
    · rw [h1, h2]
    · subst h1
      have := two b hb; subst this
      exact absurd (one q' z' b hz' hb' h2) hg1
    · subst h2
      have := two b hb'; subst this
      exact absurd (one q z b hz hb h1) hg1
    · rcases hm2n q z hz with ⟨rfl, _⟩ | ⟨_, g1⟩
      · exact absurd rfl h1
      · rcases hm2n q' z' hz' with ⟨rfl, _⟩ | ⟨_, g2⟩
        · exact absurd rfl h2
        · rw [hlo q h1] at hb; rw [hlo q' h2] at hb'
          exact hR.ok.inj q q' z z' b g1 g2 hb hb'
  · obtain ⟨q, z, hz, hb⟩ := hb
    rcases hm2n q z hz with ⟨rfl, _⟩ | ⟨hq, hz'⟩
    · rw [hlN] at hb
      have : b = g := by simpa [Blk, blkOf] using hb.symm
      exact List.mem_cons.2 (.inl this)
    · rw [hlo q hq] at hb
      exact List.mem_cons.2 (.inr (hbl b ⟨q, z, hz', hb⟩))
  · show SRel m2 (cond (Nat.beq t 0) (.box d.ps.length []) .dead) _
    cases hb : Nat.beq t 0 with
    | false => rw [cond_false]; exact SRel.dead _ _
    | true =>
      have : t = 0 := Nat.eq_of_beq_eq_true hb
      subst this
      rw [cond_true]
      simp only [SRel]
      refine ⟨by simp [m2, N, upd_same], fun k0 c0 hn0 => ⟨g, 0, k0, hlN, rfl, ?_⟩⟩
      exact tmp0
  · have := Nat.le_of_ble_eq_true hn1
    simp; omega
  · cases hb : Nat.beq t 0 with
    | false => simp [hb] at ht
    | true =>
      have : t = 0 := Nat.eq_of_beq_eq_true hb
      subst this
      simp [Nat.beq_refl] at ht
      subst ht
      exact tmp0
variable {cxs : Nat → Ctx} {f : Nat}
theorem tableQ (hm : P.follows .mixedOrders = true) (hT : ∀ k, TypesOK P (cxs k)) (hF : ∀ k, FnsOK P G (cxs k)) (hG : ∀ w', Frame0 w0 O0 w' → G w') (hfx : ∀ k t v, O0.fx t = some v → elemB t (cxs k).fx = true) (d : DefQ) (hc : ∀ k, codeOK (cxs k) n d.code = true) (hnd : (regs d.code).Nodup)
    {r : d.rs.T} {Q : Exit → Act → World → Prop} (hK : ∀ k e st a m, d.fin (cxs k) e st = some r → Rel st a m w0 O0 n → Q (toExit e) a m.w) : ∀ k, PlacesOK P d.pl d.L (d.H cxs k) r w0 O0 n d.code Q
  | 0 => fun j v _ _ h => by cases h
  | k + 1 => fun j v hj hl h a m hR => by
    simp only [DefQ.H] at h
    unfold DefQ.place at h
    split at h
    · rename_i g hg
      exact atS_sound hm (hT k) (hF k) hG (hfx k) d.code Q (d.fin (cxs k)) g a m (hc k) hnd (hK k) (tableQ hm hT hF hG hfx d hc hnd hK k) hg h hR
    · cases h
theorem resQ_some {R : Type} {b : Nat} {x : Option (R × List Nat × List Nat)} {v : R} (h : resQ b x = some v) : ∃ ids ls, x = some (v, ids, ls) ∧ apartB (b :: ids) = true ∧ ∀ q ∈ ls, q ∉ b :: ids := by
  unfold resQ at h
  split at h
  · rename_i v' ids ls
    cases hb : (apartB (b :: ids) && ls.all fun q => !((b :: ids).contains q)) with
    | false => rw [hb] at h; cases h
    | true =>
      rw [hb] at h
      cases h
      simp only [Bool.and_eq_true, List.all_eq_true, Bool.not_eq_true', List.contains_eq_mem, decide_eq_false_iff_not] at hb
      exact ⟨ids, ls, rfl, hb.1, hb.2⟩
  · cases h
/-- such a function's contract, by rounds -/
theorem DefQ.con (hm : P.follows .mixedOrders = true) (hT : ∀ k, TypesOK P (cxs k)) (hF : ∀ k, FnsOK P G (cxs k)) (d : DefQ) (hf : P.funcs[f]? = some d.fn) (hb : d.fn.body = some d.code) (hc : ∀ k, codeOK (cxs k) d.fn.ntmps d.code = true)
    (hx : ∀ k, (cxs k).fx = [0]) (hB : defQB d = true) (k : Nat) : ConQ P G f (d.fnAt cxs k) := by
  intro v r w us g ty bl X h ha hnd hg hX hG
  dsimp only [DefQ.fnAt] at v r h ha
  obtain ⟨m, hw, hR⟩ := entryQ hB ha hnd hg hX
  simp only [defQB, Bool.and_eq_true, decide_eq_true_eq, List.all_eq_true, Bool.not_eq_true'] at hB
  obtain ⟨⟨⟨⟨⟨⟨hn1, hr1⟩, hregs⟩, hbk⟩, hk⟩, hne⟩, hone⟩ := hB
  subst hw
  refine calls_of_wp hf hb ?_
  have hK : ∀ k e st a m', d.fin (cxs k) e st = some r → Rel st a m' m.w ⟨(· ∈ g :: bl), X, fun t => cond (Nat.beq t 0) (some (.pointer (some ⟨g, 0, none⟩))) none⟩ d.fn.ntmps → bodyPost P d.fn (fun e w' => ∃ u, e = .returned u ∧ Frame0 m.w (· ∈ g :: bl) w' ∧ ∃ u' bl' ty', w'.heap[g]? = some (.cells u'.cells ty' (0, 0)) ∧
      ROut w' (fun b => b ∈ bl' ∨ b = g ∨ X b) [] (.pair d.res (.agg d.out)) r [u, u'] bl' ∧ (g :: bl').Nodup ∧ ∀ b ∈ bl', m.w.heap.size ≤ b ∨ b ∈ bl) (toExit e) a m'.w := by
    intro k e st a m' he hR'
    have key : d.fin (cxs k) .norm st = some r → a.defers = [] ∧ ∃ v, (results d.fn a.tmps).run P m'.w = .ok v m'.w ∧ ∃ u, Ending.returned v = .returned u ∧ Frame0 m.w (· ∈ g :: bl) m'.w ∧ ∃ u' bl' ty', m'.w.heap[g]? = some (.cells u'.cells ty' (0, 0)) ∧
        ROut m'.w (fun b => b ∈ bl' ∨ b = g ∨ X b) [] (.pair d.res (.agg d.out)) r [u, u'] bl' ∧ (g :: bl').Nodup ∧ ∀ b ∈ bl', m.w.heap.size ≤ b ∨ b ∈ bl := by
      intro he
      simp only [DefQ.fin] at he
      split at he
      rotate_left
      · cases he
      rename_i b hsl
      split at he
      rotate_left
      · cases he
      rename_i k' c hn
      split at he
      rotate_left
      · cases he
      rename_i hkk
      subst hkk
      split at he
      rotate_left
      · cases he
      rename_i x hxs
      obtain ⟨ids, ls, h1, h2, h3⟩ := resQ_some he
      obtain ⟨ht, hrun0⟩ := res_tup (P := P) (hT k) hR' d.fn.results.toList [x] hxs
      have hrun := run_results hrun0
      have hs0 := hR'.slot 0
      rw [hsl, hR'.fixed 0 (.pointer (some ⟨g, 0, none⟩)) rfl] at hs0
      simp only [SRel] at hs0
      have hn' : m'.nodes b = some (.var d.k c) := by rw [hR'.nodes]; exact hn
      obtain ⟨g', o', k2, e1, e2, e3⟩ := hs0.2 _ _ hn'
      simp only [pathOff, Option.some.injEq, Prod.mk.injEq] at e2
      obtain ⟨rfl, _⟩ := e2
      have hgg : g = g' := by simpa using e3
      subst hgg
      obtain ⟨g2, blk, ty', u', f1, f2, f3, f4, f5, f6⟩ := hR'.ok.node b _ hn'
      rw [e1] at f1
      simp at f1; subst f1
      have hlen : (d.fn.results.toList.map (valOf P a m'.w)).length = 1 := by simpa using Nat.eq_of_beq_eq_true hr1
      obtain ⟨u, hu⟩ := List.length_eq_one_iff.1 hlen
      rw [hu] at ht
      have hst : STup m' [x, c] [u, u'] := by
        simp only [STup] at ht ⊢
        obtain ⟨u3, us3, q1, q2, q3⟩ := ht
        cases q1
        exact ⟨u, [u'], rfl, q2, u', [], rfl, f6, rfl⟩
      have hback : d.rs.backs = [] := by simpa using hbk
      obtain ⟨g1, g2, g3⟩ := resOne_sound hR' (args := []) d.rs r _ _ ids ls (fun i hi => by rw [hback] at hi; cases hi) h1 hst
      have hin : ∀ q x, st.nodes q = some x → m'.nodes q = some x := fun q x h => by rw [hR'.nodes]; exact h
      have hbown : m'.own g := ⟨b, _, hn', by rw [e1]; rfl⟩
      have hbl : ∀ c ∈ blocks m' ids, ∃ q ∈ ids, ∃ x, m'.nodes q = some x ∧ Blk (m'.loc q) c := by
        intro c hc
        obtain ⟨q, hq, hc⟩ := List.mem_flatMap.1 hc
        obtain ⟨x, hx⟩ := g2 q hq
        exact ⟨q, hq, x, hin q x hx, mem_blks.1 hc⟩
      have hnod := apartB_nodup h2
      obtain ⟨hb1, hb2⟩ := List.nodup_cons.1 hnod
      have hgn : ¬ g ∈ blocks m' ids := fun hc => by
        obtain ⟨q, hq, x, hx, hc⟩ := hbl g hc
        have : q = b := hR'.ok.inj q b x _ g hx hn' hc (by rw [e1]; rfl)
        subst this; exact hb1 hq
      have hro := g1 (fun c => c ∈ blocks m' ids ∨ c = g ∨ X c) (fun c hc => by
        rcases hc with hc | rfl | hc
        · obtain ⟨q, _, x, hx, hc⟩ := hbl c hc; exact .inl ⟨q, x, hx, hc⟩
        · exact .inl hbown
        · exact .inr (by rw [hR'.ok.keeps]; exact hc)) (fun q hq c hc hcc => by
        obtain ⟨x, hx⟩ := g3 q hq
        rcases hcc with hcc | rfl | hcc
        · obtain ⟨q', hq', x', hx', hc'⟩ := hbl c hcc
          have : q = q' := hR'.ok.inj q q' x x' c (hin q x hx) hx' hc hc'
          subst this; exact h3 q hq (List.mem_cons.2 (.inr hq'))
        · have : q = b := hR'.ok.inj q b x _ c (hin q x hx) hn' hc (by rw [e1]; rfl)
          subst this; exact h3 q hq (List.mem_cons_self)
        · exact hR'.ok.apart ⟨q, x, hin q x hx, hc⟩ (by rw [hR'.ok.keeps]; exact hcc))
      refine ⟨hR'.defers, u, ?_, u, rfl, hR'.ok.frame, u', blocks m' ids, ty', by rw [f3]; exact f2, hro, List.nodup_cons.2 ⟨hgn, nodup_blocks hR' ids hb2 g2⟩, fun c hc => ?_⟩
      · have hsz : d.fn.results.size = 1 := Nat.eq_of_beq_eq_true hr1
        rw [hrun, dif_pos (by simpa using hsz)]
        congr 1
        have : (d.fn.results.map (valOf P a m'.w)).toList = [u] := by simpa using hu
        have h3 : d.fn.results.map (valOf P a m'.w) = #[u] := by apply Array.toList_inj.1; simpa using this
        simp [h3]
      · obtain ⟨q, hq, x, hx, hc2⟩ := hbl c hc
        rcases hR'.ok.base c ⟨q, x, hx, hc2⟩ with h4 | h4
        · exact .inl h4
        · rcases List.mem_cons.1 h4 with rfl | h4
          · exact absurd hc hgn
          · exact .inr h4
    cases e with
    | norm => exact key he
    | ret => exact key he
    | exit j => cases he
  have hfx : ∀ k t u, (cond (Nat.beq t 0) (some (Value.pointer (some ⟨g, 0, none⟩))) none) = some u → elemB t (cxs k).fx = true := fun k t u h => by
    rw [hx k]
    cases hb : Nat.beq t 0 with
    | true => simp [elemB, hb]
    | false => rw [hb] at h; cases h
  exact codeS_sound hm (hT k) (hF k) hG (hfx k) d.code _ (d.fin (cxs k)) _ _ m (hc k) hregs (hK k) (tableQ hm hT hF hG hfx d hc hregs hK k) h hR
end
end Go.Fm
