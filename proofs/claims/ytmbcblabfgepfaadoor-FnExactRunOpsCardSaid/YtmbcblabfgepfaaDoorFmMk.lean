/- The functional machine: function literals. -/
import Derived.Test.YtmbcblabfgepfaaDoorFmT
set_option autoImplicit true
set_option linter.unusedVariables false
set_option linter.unusedSimpArgs false
set_option linter.unusedSectionVars false
namespace Go.Fm
variable [Strict]
section
variable {P : Program} {cx : Ctx} {st st' : St} {a : Act} {m m' : Mem} {w0 : World} {O0 : OX} {n : Nat} {R : Type} {r : R} {G : World → Prop} {o : Oper} {K : St → Option R}

/-- a variable that stays as it is -/
theorem ice_reg (hR : Rel st a m w0 O0 n) {ids : List Nat} {b : Nat} {k : Kind} {c : Slot} {v : k.T} (hn : st.nodes b = some (.var k c)) (hv : asVal st.nodes 8 c k = some v) (hb : b ∈ ids) (hc : ∀ q ∈ roots 8 c, q ∈ ids) {u : Value}
    (hu : u = m.loc b) : Reg m.w (m.cut (drops st.nodes ids)).O (.ref k) u v := by
  have hin : ∀ q x, st.nodes q = some x → m.nodes q = some x := fun q x h => by rw [hR.nodes]; exact h
  obtain ⟨g, blk, ty, u', h4, h5, h6, h7, h8, h9⟩ := hR.ok.node b _ (hin b _ hn)
  have hout : ∀ q z, q ∈ ids → st.nodes q = some z → ∀ b', Blk (m.loc q) b' → ¬ (m.cut (drops st.nodes ids)).O b' := by
    rintro q z hq hz b' hb' (⟨q', x, e1, e2⟩ | hX)
    · obtain ⟨e3, e4⟩ := drops_some e1
      have : q' = q := hR.ok.inj q' q x z b' (hin q' x e3) (hin q z hz) e2 hb'
      subst this; exact e4 hq
    · exact hR.ok.apart ⟨q, z, hin q z hz, hb'⟩ hX
  have hreg := asVal_sound (m := m) (O' := (m.cut (drops st.nodes ids)).O) (nodes := st.nodes) hin hR.ok.node (fun b' h => h.imp (fun ⟨q, x, e1, e2⟩ => ⟨q, x, hin q x (drops_some e1).1, e2⟩) id) 8 c k v u' hv h9 (fun q hq b' hb' => by
    obtain ⟨z, hz⟩ := asVal_alive 8 c k v hv q hq
    exact hout q z (hc q hq) hz b' hb')
  have hcell := hreg.cells
  rw [h6] at hcell
  rw [hu, h4]
  unfold Reg
  rw [if_neg (by simp [aggB])]
  refine ⟨rfl, g, 0, blk, ty, (0, 0), rfl, h5, hout b _ hb hn g (by rw [h4]; rfl), ?_⟩
  rw [List.drop_zero, List.take_of_length_le (by rw [hcell.length]; exact Nat.le_refl _)]
  exact hcell
theorem box_loc (hR : Rel st a m w0 O0 n) {b : Nat} {k : Kind} {c : Slot} (hn : st.nodes b = some (.var k c)) {u : Value} (hs : SRel m (.box b []) u) : u = m.loc b := by
  simp only [SRel] at hs
  obtain ⟨g, o', k', h1, h2, h3⟩ := hs.2 k c (by rw [hR.nodes]; exact hn)
  simp only [pathOff, Option.some.injEq, Prod.mk.injEq] at h2
  obtain ⟨rfl, rfl⟩ := h2
  rw [h3, h1]
theorem capsT_sound (hR : Rel st a m w0 O0 n) {ids : List Nat} : ∀ (xs : List Slot) (us : List Value) (c : Kind) (v : c.T), STup m xs us → capsT st.nodes xs = some ⟨c, v⟩ → (∀ q ∈ capIds st.nodes xs, q ∈ ids) → Cells m.w (m.cut (drops st.nodes ids)).O c us v
  | [], us, c, v, hs, h, _ => by
    simp only [capsT, Option.some.injEq, Sigma.mk.injEq] at h
    obtain ⟨rfl, h⟩ := h
    simp only [STup] at hs
    exact hs
  | x :: xs, us, c, v, hs, h, hi => by
    simp only [STup] at hs
    obtain ⟨u, us', rfl, h1, h2⟩ := hs
    unfold capsT at h
    split at h
    · rename_i e; cases e
    · rename_i b l e
      cases e
      split at h
      · rename_i k cc hn
        split at h
        · rename_i v1 c' v' hv hr
          simp only [Option.some.injEq, Sigma.mk.injEq] at h
          obtain ⟨rfl, h⟩ := h
          cases h
          simp only [capIds, hn, List.mem_cons, List.mem_append] at hi
          have hreg := ice_reg hR hn hv (hi b (.inl rfl)) (fun q hq => hi q (.inr (.inl hq))) (box_loc hR hn h1)
          unfold Reg at hreg
          rw [if_neg (by simp [aggB])] at hreg
          exact ⟨[u], us', rfl, hreg.2, capsT_sound hR xs us' c' v' h2 hr fun q hq => hi q (.inr (.inr hq))⟩
        · cases h
      · cases h
    · rename_i k v1 l e
      cases e
      split at h
      · rename_i c' v' hr
        simp only [Option.some.injEq, Sigma.mk.injEq] at h
        obtain ⟨rfl, h⟩ := h
        cases h
        simp only [SRel] at h1
        have hreg := h1.keep (cut_le (m := m) (nd := drops st.nodes ids) fun q x hq => by rw [hR.nodes]; exact (drops_some hq).1).keep
        unfold Reg at hreg
        rw [if_neg (by simp [aggB])] at hreg
        exact ⟨[u], us', rfl, hreg.2, capsT_sound hR xs us' c' v' h2 hr fun q hq => hi q (by simpa [capIds] using hq)⟩
      · cases h
    · cases h
theorem freeze_rel (hR : Rel st a m w0 O0 n) {ids : List Nat} (hids : ∀ b ∈ ids, ∀ k c, st.nodes b = some (.var k c) → ∀ q ∈ roots 8 c, q ∈ ids) : Rel (freeze st ids) a (m.cut (drops st.nodes ids)) w0 O0 n := by
  have hR1 := hR.cut (nd := drops st.nodes ids) fun q x hq => (drops_some hq).1
  refine ⟨hR1.nodes, hR1.used, hR1.ok, fun t => ?_, hR1.defers, hR1.size, hR1.fixed⟩
  have h1 := hR1.slot t
  show SRel _ (iceS st.nodes ids (st.slots t)) _
  have h0 := hR.slot t
  dsimp only at h1
  unfold iceS
  split
  · rename_i b hb
    cases hc : ids.contains b with
    | false => rw [cond_false]; rw [hb] at h1; exact h1
    | true =>
      rw [cond_true]
      have hbm : b ∈ ids := by simpa using hc
      split
      · rename_i k c hn
        split
        · rename_i v hv
          rw [hb] at h0
          simp only [SRel]
          exact ice_reg hR hn hv hbm (hids b hbm k c hn) (box_loc hR hn h0)
        · exact SRel.dead _ _
      · exact SRel.dead _ _
  · exact h1
theorem closedB_sound {nodes : Nat → Option Node} {ids : List Nat} (h : closedB nodes ids = true) : ∀ b ∈ ids, ∀ k c, nodes b = some (.var k c) → ∀ q ∈ roots 8 c, q ∈ ids := by
  intro b hb k c hn q hq
  have h1 := List.all_eq_true.1 h b hb
  rw [hn] at h1
  have h2 := List.all_eq_true.1 h1 q hq
  simpa using h2
theorem hard_makeFunc (hR : Rel st a m w0 O0 n) (hd : ∀ t, o.dst = some t → t < n ∧ O0.fx t = none) {g : Nat} {first caps : Array Operand} (ho : o.op = .makeFunc (.func g) first caps) (h : hardC cx st o K = some r) : ∃ st', K st' = some r ∧ HOpR P o a m st' w0 O0 n (fun _ => False) := by
  simp only [hardC, ho] at h
  cases hlend : (elemB g cx.ld && first.isEmpty) with
  | true =>
    rw [hlend, cond_true] at h
    have hfe : first = #[] := by
      simp only [Bool.and_eq_true] at hlend
      simpa using hlend.2
    subst hfe
    refine ⟨_, h, .value (u := .func (.func g) #[] (caps.map a.eval)) ?_ rfl (hR.put o.dst hd ?_) (Frame0.refl _ _) ?_⟩
    · simp [execOp, ho, Instr.makeFunc]
    · simp only [SRel]
      exact ⟨caps.toList.map a.eval, by congr 2; apply Array.toList_inj.1; simp, STup_eval hR caps.toList⟩
    · rintro b ⟨q, x, hx, hx', hb⟩
      exact .inl ⟨q, x, hx, hx', hb⟩
  | false =>
  rw [hlend, cond_false] at h
  split at h
  · rename_i c v hf hc
    have hfe : first = #[] := by apply Array.toList_inj.1; simpa using hf
    subst hfe
    have hcell := capsT_sound hR (ids := capIds st.nodes (caps.toList.map (evalS st))) _ _ c v (STup_eval hR caps.toList) hc fun q hq => hq
    cases hcl : closedB st.nodes (capIds st.nodes (caps.toList.map (evalS st))) with
    | false => rw [hcl] at h; cases h
    | true =>
    rw [hcl, cond_true] at h
    have hR1 := freeze_rel hR (closedB_sound hcl)
    refine ⟨_, h, .value (u := .func (.func g) #[] (caps.map a.eval)) ?_ rfl (hR1.put o.dst hd (SRel.valI ?_)) (Frame0.refl _ _) ?_⟩
    · simp [execOp, ho, Instr.makeFunc]; rfl
    · unfold Reg
      rw [if_neg (by simp [aggB])]
      exact ⟨rfl, caps.toList.map a.eval, by congr 2; apply Array.toList_inj.1; simp, hcell⟩
    · rintro b ⟨q, x, hx, hx', hb⟩
      exact .inl ⟨q, x, by rw [hR.nodes]; exact (drops_some hx).1, hx', hb⟩
  · cases h
end
end Go.Fm
