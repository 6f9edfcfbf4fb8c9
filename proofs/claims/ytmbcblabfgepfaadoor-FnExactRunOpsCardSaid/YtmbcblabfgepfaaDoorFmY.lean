/- The functional machine: what a function computes is what the Go machine computes. -/
import Derived.Test.YtmbcblabfgepfaaDoorFmX
set_option autoImplicit true
set_option linter.unusedVariables false
set_option linter.unusedSimpArgs false
set_option linter.unusedSectionVars false
namespace Go.Fm
variable [Strict]

def resB (d : Def) : Bool := match d.res with | .tup _ => d.fn.results.size != 1 | _ => d.fn.results.size == 1
section
variable {P : Program} {cx : Ctx} {st : St} {a : Act} {m : Mem} {w0 : World} {O0 : OX} {n : Nat} {G : World → Prop}

def resVar (a : Act) (x : ResultVar) : Sem Value := match x with
  | .tmp t => pure (a.tmps.getD t undef)
  | .cell b t => do loadVar t (← asAddr (a.tmps.getD b undef))
def valOf (P : Program) (a : Act) (w : World) (x : ResultVar) : Value := match (resVar a x).run P w with | .ok u _ => u | _ => undef
theorem resSlot_sound (hT : TypesOK P cx) (hR : Rel st a m w0 O0 n) {x : ResultVar} {s : Slot} (h : resSlot cx st x = some s) : (resVar a x).run P m.w = .ok (valOf P a m.w x) m.w ∧ SRel m s (valOf P a m.w x) := by
  have key : ∃ u, (resVar a x).run P m.w = .ok u m.w ∧ SRel m s u := by
    cases x with
    | tmp t => simp only [resSlot, Option.some.injEq] at h; subst h; exact ⟨_, rfl, hR.slot t⟩
    | cell b t =>
      simp only [resSlot] at h
      split at h
      · rename_i q hq
        split at h
        · rename_i k c hn
          split at h
          · rename_i hk
            cases hp : plain (cx.kd t) with
            | false => rw [hp] at h; cases h
            | true =>
              rw [hp, cond_true] at h
              cases h
              obtain ⟨ht, ho, hi⟩ := plain_of hT hp
              have hs := hR.slot b
              rw [hq] at hs
              simp only [SRel] at hs
              have hn' : m.nodes q = some (.var k s) := by rw [hR.nodes]; exact hn
              obtain ⟨g, o', k', h1, h2, h3⟩ := hs.2 k s hn'
              obtain ⟨g', blk, ty, u, h4, h5, h6, h7, h8, h9⟩ := hR.ok.node q _ hn'
              rw [h1] at h4; simp at h4; subst h4
              simp only [pathOff, Option.some.injEq, Prod.mk.injEq] at h2
              obtain ⟨rfl, rfl⟩ := h2
              have hsz := h7.size
              rw [h6] at hsz
              refine ⟨u, ?_, h9⟩
              have hl := run_loadVar ht ho hi h5 0 (by rw [← hk]; omega)
              have hreg : regOf (cx.kd t) ((blk.toList.drop 0).take (width (cx.kd t))) = u := by
                rw [List.drop_zero, List.take_of_length_le (by simp; rw [← hk]; omega), ← h6, ← hk]
                exact h7.reg
              rw [hreg] at hl
              simp only [resVar, h3, asAddr, Sem.run_bind, Sem.run_pure, Result.andThen_ok]
              exact hl
          · cases h
        · cases h
      · cases h
  obtain ⟨u, h1, h2⟩ := key
  have : valOf P a m.w x = u := by unfold valOf; rw [h1]
  rw [this]; exact ⟨h1, h2⟩
theorem res_tup (hT : TypesOK P cx) (hR : Rel st a m w0 O0 n) : ∀ (l : List ResultVar) (xs : List Slot), resSlots cx st l = some xs → STup m xs (l.map (valOf P a m.w)) ∧ ∀ x ∈ l, (resVar a x).run P m.w = .ok (valOf P a m.w x) m.w
  | [], xs, h => by simp [resSlots] at h; subst h; simp [STup]
  | x :: l, xs, h => by
    simp only [resSlots] at h
    split at h
    · rename_i s hs
      split at h
      · rename_i ys hys
        cases h
        obtain ⟨h1, h2⟩ := resSlot_sound hT hR hs
        obtain ⟨h3, h4⟩ := res_tup hT hR l ys hys
        refine ⟨?_, fun y hy => ?_⟩
        · simp only [List.map_cons, STup]; exact ⟨_, _, rfl, h2, h3⟩
        · rcases List.mem_cons.1 hy with rfl | hy
          · exact h1
          · exact h4 y hy
      · cases h
    · cases h
theorem run_results {fn : Func} {w : World} (h : ∀ x ∈ fn.results.toList, (resVar a x).run P w = .ok (valOf P a w x) w) : (results fn a.tmps).run P w = .ok (if h : (fn.results.map (valOf P a w)).size = 1 then (fn.results.map (valOf P a w))[0] else .tuple (fn.results.map (valOf P a w))) w := by
  unfold results
  rw [Sem.run_bind, run_mapMA (g' := valOf P a w) fn.results]
  · rfl
  · intro x hx
    rw [← h x hx]
    cases x <;> rfl
theorem nodup_blocks (hR : Rel st a m w0 O0 n) : ∀ (ids : List Nat), ids.Nodup → (∀ q ∈ ids, ∃ x, st.nodes q = some x) → (blocks m ids).Nodup
  | [], _, _ => by simp [blocks]
  | q :: ids, hn, ha => by
    obtain ⟨h1, h2⟩ := List.nodup_cons.1 hn
    have h3 := nodup_blocks hR ids h2 fun q' hq' => ha q' (by simp [hq'])
    simp only [blocks, List.flatMap_cons] at h3 ⊢
    refine List.nodup_append.2 ⟨?_, h3, ?_⟩
    · obtain ⟨x, hx⟩ := ha q (by simp)
      have hN := hR.ok.node q x (by rw [hR.nodes]; exact hx)
      cases x with
      | deep ty e ts l => exact DeepR.nodup (hR.deep hx)
      | row ty e l => obtain ⟨xs, g1, _⟩ := hN; rw [blks_own g1]; cases blkOf (m.loc q) <;> simp
      | var k c => obtain ⟨g, blk, ty, u, g1, _⟩ := hN; rw [g1]; simp [blks, blkOf]
      | mp kk kv l => obtain ⟨_, _, g, g1, _⟩ := hN; rw [g1]; simp [blks, blkOf]
      | hole ty e ts l i j => obtain ⟨_, _, _, _, hnd⟩ := hN; exact hnd
    intro b hb b' hb' e
    subst e
    obtain ⟨q', hq', hb'⟩ := List.mem_flatMap.1 hb'
    obtain ⟨x, hx⟩ := ha q (by simp)
    obtain ⟨x', hx'⟩ := ha q' (by simp [hq'])
    have : q = q' := hR.ok.inj q q' x x' b (by rw [hR.nodes]; exact hx) (by rw [hR.nodes]; exact hx') (mem_blks.1 hb) (mem_blks.1 hb')
    subst this; exact h1 hq'

theorem resC_some {R : Type} {x : Option (R × List Nat × List Nat)} {v : R} (h : resC x = some v) : ∃ ids ls, x = some (v, ids, ls) ∧ apartB ids = true ∧ ∀ q ∈ ls, q ∉ ids := by
  unfold resC at h
  split at h
  · rename_i v' ids ls
    cases hb : (apartB ids && ls.all fun q => !(ids.contains q)) with
    | false => rw [hb] at h; cases h
    | true =>
      rw [hb] at h
      cases h
      simp only [Bool.and_eq_true, List.all_eq_true, Bool.not_eq_true', List.contains_eq_mem, decide_eq_false_iff_not] at hb
      exact ⟨ids, ls, rfl, hb.1, hb.2⟩
  · cases h
theorem resS_sound (hT : TypesOK P cx) (hR : Rel st a m w0 O0 n) {d : Def} {args : List Value} {sl : Nat → Slot} (hbk : ∀ i ∈ d.res.backs, ∃ u, args[i]? = some u ∧ SRel m (sl i) u) (hres : resB d = true) {v : d.res.T} (h : resS cx st sl d.res d.fn.results.toList = some v) :
    ∃ u, (results d.fn a.tmps).run P m.w = .ok u m.w ∧ Frame0 w0 O0 m.w ∧ ∃ bl, ROut m.w (fun b => b ∈ bl ∨ O0.X b) args d.res v [u] bl ∧ bl.Nodup ∧ ∀ b ∈ bl, w0.heap.size ≤ b ∨ O0 b := by
  obtain ⟨fn, code, ps, res, pl, L, sh⟩ := d
  dsimp only at v h hbk ⊢
  simp only [resB] at hres
  unfold resS at h
  split at h
  · cases h
  rename_i xs hxs
  obtain ⟨ht, hrun0⟩ := res_tup (P := P) hT hR fn.results.toList xs hxs
  have hrun := run_results hrun0
  have hin : ∀ q x, st.nodes q = some x → m.nodes q = some x := fun q x h => by rw [hR.nodes]; exact h
  have hbl : ∀ ids : List Nat, (∀ q ∈ ids, ∃ x, st.nodes q = some x) → ∀ b ∈ blocks m ids, m.own b := by
    intro ids ha b hb
    obtain ⟨q, hq, hb⟩ := List.mem_flatMap.1 hb
    obtain ⟨x, hx⟩ := ha q hq
    exact ⟨q, x, hin q x hx, mem_blks.1 hb⟩
  have hO : ∀ ids : List Nat, (∀ q ∈ ids, ∃ x, st.nodes q = some x) → ∀ b, (b ∈ blocks m ids ∨ O0.X b) → m.O b := by
    rintro ids ha b (hb | hb)
    · exact .inl (hbl ids ha b hb)
    · rw [← hR.ok.keeps] at hb; exact .inr hb
  have hL : ∀ ids ls : List Nat, (∀ q ∈ ids, ∃ x, st.nodes q = some x) → (∀ q ∈ ls, ∃ x, st.nodes q = some x) → (∀ q ∈ ls, q ∉ ids) → ∀ q ∈ ls, ∀ b, Blk (m.loc q) b → ¬ (b ∈ blocks m ids ∨ O0.X b) := by
    rintro ids ls ha hl hn q hq b hb (hb' | hb')
    · obtain ⟨q', hq', hb'⟩ := List.mem_flatMap.1 hb'
      obtain ⟨x, hx⟩ := hl q hq
      obtain ⟨x', hx'⟩ := ha q' hq'
      have : q = q' := hR.ok.inj q q' x x' b (hin q x hx) (hin q' x' hx') hb (mem_blks.1 hb')
      subst this; exact hn q hq hq'
    · obtain ⟨x, hx⟩ := hl q hq
      rw [← hR.ok.keeps] at hb'
      exact hR.ok.apart ⟨q, x, hin q x hx, hb⟩ hb'
  have single : fn.results.size = 1 → ∀ (v : res.T) (ids ls : List Nat), resOne st sl res xs = some (v, ids, ls) → apartB ids = true → (∀ q ∈ ls, q ∉ ids) →
      ∃ u, (results fn a.tmps).run P m.w = .ok u m.w ∧ Frame0 w0 O0 m.w ∧ ∃ bl, ROut m.w (fun b => b ∈ bl ∨ O0.X b) args res v [u] bl ∧ bl.Nodup ∧ ∀ b ∈ bl, w0.heap.size ≤ b ∨ O0 b := by
    intro hs v ids ls h1 h2 h3
    obtain ⟨g1, g2, g3⟩ := resOne_sound hR res v _ _ ids ls hbk h1 ht
    have g1 := g1 (fun b => b ∈ blocks m ids ∨ O0.X b) (hO ids g2) (hL ids ls g2 g3 h3)
    have hlen : (fn.results.toList.map (valOf P a m.w)).length = 1 := by simpa using hs
    obtain ⟨u, hu⟩ := List.length_eq_one_iff.1 hlen
    rw [hu] at g1
    refine ⟨u, ?_, hR.ok.frame, blocks m ids, g1, nodup_blocks hR ids (apartB_nodup h2) g2, fun b hb => hR.ok.base b (hbl ids g2 b hb)⟩
    rw [hrun, dif_pos (by simpa using hs)]
    congr 1
    have : (fn.results.map (valOf P a m.w)).toList = [u] := by simpa using hu
    have h3 : fn.results.map (valOf P a m.w) = #[u] := by apply Array.toList_inj.1; simpa using this
    simp [h3]
  have fin1 : fn.results.size = 1 → resC (resOne st sl res xs) = some v →
      ∃ u, (results fn a.tmps).run P m.w = .ok u m.w ∧ Frame0 w0 O0 m.w ∧ ∃ bl, ROut m.w (fun b => b ∈ bl ∨ O0.X b) args res v [u] bl ∧ bl.Nodup ∧ ∀ b ∈ bl, w0.heap.size ≤ b ∨ O0 b := by
    intro hs h
    obtain ⟨ids, ls, h1, h2, h3⟩ := resC_some h
    exact single hs v ids ls h1 h2 h3
  cases res with
  | tup ra =>
    obtain ⟨ids, ls, h1, h2, h3⟩ := resC_some h
    obtain ⟨g1, g2, g3⟩ := resOne_sound hR ra v _ _ ids ls hbk h1 ht
    have g1 := g1 (fun b => b ∈ blocks m ids ∨ O0.X b) (hO ids g2) (hL ids ls g2 g3 h3)
    refine ⟨.tuple (fn.results.map (valOf P a m.w)), ?_, hR.ok.frame, blocks m ids, ⟨fn.results.toList.map (valOf P a m.w), by rw [show (fn.results.toList.map (valOf P a m.w)).toArray = fn.results.map (valOf P a m.w) from by apply Array.toList_inj.1; simp], g1⟩, nodup_blocks hR ids (apartB_nodup h2) g2, fun b hb => hR.ok.base b (hbl ids g2 b hb)⟩
    rw [hrun, dif_neg (by simpa using hres)]
  | val k => exact fin1 (by simpa using hres) h
  | own ty e => exact fin1 (by simpa using hres) h
  | pair x y => exact fin1 (by simpa using hres) h
  | agg x => exact fin1 (by simpa using hres) h
  | back i ty e x => exact fin1 (by simpa using hres) h
  | deep ty e ts => exact fin1 (by simpa using hres) h
  | dback i ty e ts x => exact fin1 (by simpa using hres) h
  | nil => exact fin1 (by simpa using hres) h

variable {cxs : Nat → Ctx} {f : Nat}
theorem table_sound (hm : P.follows .mixedOrders = true) (hT : ∀ k, TypesOK P (cxs k)) (hF : ∀ k, FnsOK P G (cxs k)) (hG : ∀ w', Frame0 w0 O0 w' → G w') (hfx : ∀ k t v, O0.fx t = some v → elemB t (cxs k).fx = true) (d : Def) (hc : ∀ k, codeOK (cxs k) n d.code = true) (hnd : (regs d.code).Nodup)
    {H : Nat → (n : Nat) → LT (d.L n) → Option d.res.T} (h0 : ∀ j v, H 0 j v = none) (hs : ∀ k j v, elemB j d.pl = true → H (k + 1) j v = d.place (cxs k) (H k) j v)
    {r : d.res.T} {Q : Exit → Act → World → Prop} (hK : ∀ k e st a m, d.fin (cxs k) e st = some r → Rel st a m w0 O0 n → Q (toExit e) a m.w) : ∀ k, PlacesOK P d.pl d.L (H k) r w0 O0 n d.code Q
  | 0 => fun j v _ _ h => by rw [h0] at h; cases h
  | k + 1 => fun j v hj hl h a m hR => by
    rw [hs k j v hl] at h
    unfold Def.place at h
    split at h
    · rename_i g hg
      exact atS_sound hm (hT k) (hF k) hG (hfx k) d.code Q (d.fin (cxs k)) g a m (hc k) hnd (hK k) (table_sound hm hT hF hG hfx d hc hnd h0 hs hK k) hg h hR
    · cases h

theorem elemB_mem : ∀ {l : List Nat} {i : Nat}, i ∈ l → elemB i l = true
  | m :: l, i, h => by
    unfold elemB
    cases hb : Nat.beq i m with
    | true => rfl
    | false =>
      rcases List.mem_cons.1 h with rfl | h
      · rw [Nat.beq_refl] at hb; cases hb
      · exact elemB_mem h
/-- a function's contract, by rounds -/
theorem Def.con (hm : P.follows .mixedOrders = true) (hT : ∀ k, TypesOK P (cxs k)) (hF : ∀ k, FnsOK P G (cxs k)) (d : Def) (hf : P.funcs[f]? = some d.fn) (hb : d.fn.body = some d.code) (hc : ∀ k, codeOK (cxs k) d.fn.ntmps d.code = true)
    (hnd : (regs d.code).Nodup) (hres : resB d = true) (hsh : shB d.sh d.ps = true) (hlen : (match d.sh with | [] => d.ps.length | sh => sh.length) ≤ d.fn.ntmps) (hbx : ∀ k, (cxs k).fx = d.res.backs.map (realOf d.sh)) (hbl2 : ∀ i ∈ d.res.backs, i < d.ps.length)
    {H : Nat → (n : Nat) → LT (d.L n) → Option d.res.T} (h0 : ∀ j v, H 0 j v = none) (hs : ∀ k j v, elemB j d.pl = true → H (k + 1) j v = d.place (cxs k) (H k) j v)
    {F : Nat → ArgsT d.ps → Option d.res.T} (hF' : ∀ k v, F k v = d.body (cxs k) (H k) v) (k : Nat) : Con P G f ⟨d.ps, d.res, F k, d.sh⟩ := by
  intro v r w args bl X h ha hbl hX hG
  dsimp only at v r h ha
  rw [hF'] at h
  have hal := (toA_all 0 d.ps v args bl ha hbl).1
  have hln : (pack d.sh args).length ≤ d.fn.ntmps := by
    revert hlen hsh
    cases hd : d.sh with
    | nil => intro _ hl; simpa [pack, hal] using hl
    | cons x l =>
      intro hs hl
      rw [pack_len (by rw [(shB_of hs (by simp)).1, hal])]
      exact hl
  obtain ⟨m, hw, hR⟩ := entry_sound (fx := fun t => cond (elemB t (d.res.backs.map (realOf d.sh))) (pack d.sh args)[t]? none) ha hbl hX hsh (fun t u h => by cases hb : elemB t (d.res.backs.map (realOf d.sh)) with | true => rw [hb] at h; exact h | false => rw [hb] at h; cases h) hln
  have hreal : ∀ i, realOf [] i = i := fun i => rfl
  have hfx : ∀ k t u, (cond (elemB t (d.res.backs.map (realOf d.sh))) (pack d.sh args)[t]? none) = some u → elemB t (cxs k).fx = true := fun k t u h => by
    rw [hbx k]
    cases hb : elemB t (d.res.backs.map (realOf d.sh)) with
    | true => rfl
    | false => rw [hb] at h; cases h
  subst hw
  refine calls_of_wp hf hb ?_
  have hK : ∀ k e st a m', d.fin (cxs k) e st = some r → Rel st a m' m.w ⟨(· ∈ bl), X, fun t => cond (elemB t (d.res.backs.map (realOf d.sh))) (pack d.sh args)[t]? none⟩ d.fn.ntmps → bodyPost P d.fn (fun e w' => ∃ u, e = .returned u ∧ Frame0 m.w (· ∈ bl) w' ∧ ∃ bl', ROut w' (fun b => b ∈ bl' ∨ X b) args d.res r [u] bl' ∧ bl'.Nodup ∧ ∀ b ∈ bl', m.w.heap.size ≤ b ∨ b ∈ bl) (toExit e) a m'.w := by
    intro k e st a m' he hR'
    have hbk : ∀ i ∈ d.res.backs, ∃ u, args[i]? = some u ∧ SRel m' (backSl d.sh d.ps (cxs k).fx st.slots i) u := fun i hi => by
      refine back_sound hR' hsh (args_forms ha) (fun t ht hlt => ?_) (hbl2 i hi) (fun hs => ?_)
      · rw [hbx k] at ht
        show (cond (elemB t (d.res.backs.map (realOf d.sh))) _ none) = _
        rw [ht, cond_true]
      · rw [hbx k]
        refine elemB_mem (List.mem_map.2 ⟨i, hi, ?_⟩)
        rw [hs]; rfl
    have key : resS (cxs k) st (backSl d.sh d.ps (cxs k).fx st.slots) d.res d.fn.results.toList = some r → a.defers = [] ∧ ∃ v, (results d.fn a.tmps).run P m'.w = .ok v m'.w ∧ ∃ u, Ending.returned v = .returned u ∧ Frame0 m.w (· ∈ bl) m'.w ∧ ∃ bl', ROut m'.w (fun b => b ∈ bl' ∨ X b) args d.res r [u] bl' ∧ bl'.Nodup ∧ ∀ b ∈ bl', m.w.heap.size ≤ b ∨ b ∈ bl := by
      intro hs
      obtain ⟨u, h1, h2, h3⟩ := resS_sound (P := P) (hT k) hR' hbk hres hs
      exact ⟨hR'.defers, u, h1, u, rfl, h2, h3⟩
    cases e with
    | norm => exact key he
    | ret => exact key he
    | exit j => cases he
  exact codeS_sound hm (hT k) (hF k) hG (hfx k) d.code _ (d.fin (cxs k)) _ _ m (hc k) hnd (hK k) (table_sound hm hT hF hG hfx d hc hnd h0 hs hK k) h hR

theorem TypesOK.fx {base : Ctx} (h : TypesOK P base) (l : List Nat) : TypesOK P (fxCx base l) := ⟨h.ty, h.elem, h.most, h.eqs, h.mp⟩
theorem TypesOK.ld {base : Ctx} (h : TypesOK P base) (l : List Nat) : TypesOK P (ldCx base l) := ⟨h.ty, h.elem, h.most, h.eqs, h.mp⟩
theorem TypesOK.dp {base : Ctx} (h : TypesOK P base) (l : List (Nat × List Nat)) : TypesOK P (dpCx base l) := ⟨h.ty, h.elem, h.most, h.eqs, h.mp⟩
theorem TypesOK.alt {cx : Ctx} (h : TypesOK P cx) (l : List (Nat × Fn)) : TypesOK P (altCx cx l) := ⟨h.ty, h.elem, h.most, h.eqs, h.mp⟩
theorem TypesOK.mk' {base : Ctx} (h : TypesOK P base) (env : List (Nat × Fn)) : TypesOK P (mkCx base env) := ⟨h.ty, h.elem, h.most, h.eqs, h.mp⟩
theorem FnsOK.nil {base : Ctx} : FnsOK P G (mkCx base []) := ⟨fun f F h => (by cases h), fun f F h => (by cases h), fun f F h => (by cases h), fun f F h => (by cases h)⟩
theorem FnsOK.cons {base : Ctx} {env : List (Nat × Fn)} {g : Nat} {F : Fn} (h1 : Con P G g F) (h2 : callable P g = true) (h : FnsOK P G (mkCx base env)) : FnsOK P G (mkCx base ((g, F) :: env)) := by
  have key : ∀ f F', look ((g, F) :: env) f = some F' → (f = g ∧ F' = F) ∨ look env f = some F' := by
    intro f F' h
    simp only [look] at h
    cases hb : Nat.beq f g with
    | true => rw [hb, cond_true] at h; cases h; exact .inl ⟨Nat.eq_of_beq_eq_true hb, rfl⟩
    | false => rw [hb, cond_false] at h; exact .inr h
  exact ⟨fun f F' h3 => by
      rcases key f F' h3 with ⟨rfl, rfl⟩ | h4
      · exact h1
      · exact h.con f F' h4,
    fun f F' h3 => by
      rcases key f F' h3 with ⟨rfl, rfl⟩ | h4
      · exact h2
      · exact h.call f F' h4, fun f F' h3 => (by cases h3), fun f F' h3 => (by cases h3)⟩
theorem FnsOK.q0 {cx : Ctx} (h : FnsOK P G cx) : FnsOK P G (pfCx cx []) := ⟨h.con, h.call, h.more, fun f F h => (by cases h)⟩
theorem FnsOK.qs {cx : Ctx} {l : List (Nat × PFn)} {g : Nat} {F : PFn} (h1 : ConQ P G g F) (h2 : callable P g = true) (h : FnsOK P G (pfCx cx l)) : FnsOK P G (pfCx cx ((g, F) :: l)) := by
  refine ⟨h.con, h.call, h.more, fun f F' h3 => ?_⟩
  change lookQ ((g, F) :: l) f = some F' at h3
  simp only [lookQ] at h3
  cases hb : Nat.beq f g with
  | true =>
    rw [hb, cond_true] at h3; cases h3
    obtain rfl := Nat.eq_of_beq_eq_true hb
    exact ⟨h1, h2⟩
  | false => rw [hb, cond_false] at h3; exact h.q f F' h3
theorem TypesOK.pf {cx : Ctx} (h : TypesOK P cx) (l : List (Nat × PFn)) : TypesOK P (pfCx cx l) := ⟨h.ty, h.elem, h.most, h.eqs, h.mp⟩
theorem FnsOK.alt0 {cx : Ctx} (h : FnsOK P G cx) : FnsOK P G (altCx cx []) := ⟨h.con, h.call, fun f F h => (by cases h), h.q⟩
theorem FnsOK.alt {cx : Ctx} {alts : List (Nat × Fn)} {g : Nat} {F : Fn} (h1 : Con P G g F) (h2 : callable P g = true) (h : FnsOK P G (altCx cx alts)) : FnsOK P G (altCx cx ((g, F) :: alts)) := by
  refine ⟨h.con, h.call, fun f F' hm => ?_, h.q⟩
  change F' ∈ looks ((g, F) :: alts) f at hm
  simp only [looks] at hm
  cases hb : Nat.beq f g with
  | true =>
    rw [hb, cond_true] at hm
    obtain rfl := Nat.eq_of_beq_eq_true hb
    cases hm with
    | head => exact ⟨h1, h2⟩
    | tail _ hm => exact h.more f F' hm
  | false => rw [hb, cond_false] at hm; exact h.more f F' hm
end
end Go.Fm
