/- The functional machine: a call of a function that is handed a pointer to a variable, and turns it. -/
import Derived.Test.YtmbcblabfgepfaaDoorFmT
set_option autoImplicit true
set_option linter.unusedVariables false
set_option linter.unusedSimpArgs false
set_option linter.unusedSectionVars false
namespace Go.Fm
variable [Strict]

section
variable {P : Program} {cx : Ctx} {st st' : St} {a : Act} {m m' : Mem} {w0 : World} {O0 : OX} {n : Nat} {R : Type} {r : R} {G : World → Prop} {o : Oper} {K : St → Option R}

theorem callQ_sound (hF : FnsOK P G cx) (hG : ∀ w', Frame0 w0 O0 w' → G w') (hR : Rel st a m w0 O0 n) (hd : ∀ t, o.dst = some t → t < n ∧ O0.fx t = none) {f : Nat} {F : PFn} {b : Nat} (hpf : cx.pf f = some F) {u0 : Value} (hs : SRel m (.box b []) u0)
    (hrun0 : callable P f = true → (execOp a.eval o).run P m.w = .ok (.enter f #[u0]) m.w) (h : callQ st o K F b = some r) : ∃ st', K st' = some r ∧ HOp P o a m.w st' w0 O0 n := by
  unfold callQ at h
  split at h
  rotate_left
  · cases h
  rename_i k k' l hn
  split at h
  rotate_left
  · cases h
  rename_i hk
  subst hk
  split at h
  rotate_left
  · cases h
  rename_i nd hnd
  split at h
  rotate_left
  · cases h
  rename_i v hv
  obtain ⟨res, h1, h2⟩ := Option.bind_eq_some_iff.1 h
  split at h2
  rotate_left
  · cases h2
  rename_i x y j s2 hlay
  cases hfi : fits F.k y with
  | false => rw [hfi, cond_false] at h2; cases h2
  | true =>
  rw [hfi, cond_true] at h2
  have hin : ∀ q x, st.nodes q = some x → m.nodes q = some x := fun q x h => by rw [hR.nodes]; exact h
  have hn' := hin b _ hn
  obtain ⟨g, blk, ty, ub, e1, e2, e3, e4, e5, e6⟩ := hR.ok.node b _ hn'
  simp only [SRel] at e6
  obtain ⟨a0, us, rfl, rfl, e7⟩ := e6
  have hs0 := SRels_tup e7
  have e3' : blk = (catCells us).toArray := by rw [← e3]; simp [Value.cells]
  subst e3'
  simp only [SRel] at hs
  obtain ⟨g', o', k'', f1, f2, f3⟩ := hs.2 _ _ hn'
  rw [e1] at f1
  simp at f1; subst f1
  simp only [pathOff, Option.some.injEq, Prod.mk.injEq] at f2
  obtain ⟨rfl, _⟩ := f2
  have hbu : m.used b = true := hs.1
  have hsub0 : ∀ q x, upd st.nodes b none q = some x → m.nodes q = some x ∧ q ≠ b := fun q x h => by
    by_cases hq : q = b
    · subst hq; rw [upd_same] at h; cases h
    · rw [upd_other _ _ hq] at h; exact ⟨hin q x h, hq⟩
  obtain ⟨k1, k2, k3⟩ := takeOwn_sound hR.ok F.ps l _ nd (fun q x h => (hsub0 q x h).1) hnd
  have hndm : ∀ q x, nd q = some x → m.nodes q = some x ∧ q ≠ b := fun q x h => hsub0 q x (k1 q x h)
  have hgb : Blk (m.loc b) g := by rw [e1]; rfl
  have hal := argsT_alive F.ps _ v hv
  have hO : ∀ c ∈ g :: handed m F.ps l, m.own c := fun c hc => by
    rcases List.mem_cons.1 hc with rfl | hc
    · exact ⟨b, _, hn', hgb⟩
    · obtain ⟨q, x, h3, _, h4⟩ := k3 c hc
      exact ⟨q, x, (hsub0 q x h3).1, h4⟩
  -- a node that stays has none of the blocks
  have hstay : ∀ q x, nd q = some x → ∀ c, Blk (m.loc q) c → ¬ c ∈ g :: handed m F.ps l := by
    intro q x hq c hc hcl
    obtain ⟨hq1, hq2⟩ := hndm q x hq
    rcases List.mem_cons.1 hcl with rfl | hcl
    · exact hq2 (hR.ok.inj q b x _ c hq1 hn' hc hgb)
    · obtain ⟨q', x', h3, h4, h5⟩ := k3 c hcl
      have : q = q' := hR.ok.inj q q' x x' c hq1 (hsub0 q' x' h3).1 hc h5
      subst this; rw [h4] at hq; cases hq
  have hnodup : (g :: handed m F.ps l).Nodup := by
    refine List.nodup_cons.2 ⟨fun hg => ?_, k2⟩
    obtain ⟨q', x', h3, h4, h5⟩ := k3 g hg
    exact (hsub0 q' x' h3).2 (hR.ok.inj q' b x' _ g (hsub0 q' x' h3).1 hn' h5 hgb)
  let Y : Nat → Prop := fun c => (∃ q x, nd q = some x ∧ q ∉ lentA F.ps l ∧ Blk (m.loc q) c) ∨ m.X c
  have hY : ∀ c, Y c → m.O c := by
    rintro c (⟨q, x, h3, _, h4⟩ | hc)
    · exact .inl ⟨q, x, (hndm q x h3).1, h4⟩
    · exact .inr hc
  have hlent : ∀ q ∈ lentA F.ps l, ∀ c, Blk (m.loc q) c → ¬ Y c := by
    intro q hq c hc hyc
    obtain ⟨z, hz⟩ := hal q hq
    rcases hyc with ⟨q', x, h3, h4, h5⟩ | hyc
    · have : q = q' := hR.ok.inj q q' z x c (hndm q z hz).1 (hndm q' x h3).1 hc h5
      subst this; exact h4 hq
    · exact hR.ok.apart ⟨q, z, (hndm q z hz).1, hc⟩ hyc
  have hfar : ∀ c, Y c → c < m.w.heap.size ∧ ¬ c ∈ g :: handed m F.ps l := by
    intro c hc
    refine ⟨hR.ok.O_lt (hY c hc), fun hcl => ?_⟩
    rcases hc with ⟨q, x, g3, _, g5⟩ | hc
    · exact hstay q x g3 c g5 hcl
    · exact hR.ok.apart (hO c hcl) hc
  have ha := argsT_sound hR (nd := nd) (BL := g :: handed m F.ps l) (fun q x h => by have := (hndm q x h).1; rwa [hR.nodes] at this) (fun c hc => by
    rcases List.mem_cons.1 hc with rfl | hc
    · refine ⟨b, _, hn, ?_, hgb⟩
      cases hx : nd b with
      | none => rfl
      | some x => exact absurd rfl (hndm b x hx).2
    · obtain ⟨q, x, h3, h4, h5⟩ := k3 c hc
      exact ⟨q, x, by have := (hsub0 q x h3).1; rwa [hR.nodes] at this, h4, h5⟩) hY F.ps l us v hs0 hlent hv
  have hc := (hF.q f F hpf).1 v res m.w us g ty _ Y h1 ha hnodup e2 hfar fun w'' hf' => hG w'' (hR.ok.frame.trans' hf' fun c hc => hR.ok.base c (hO c hc))
  refine ⟨_, h2, fun next Q hn2 => ?_⟩
  have hrun := hrun0 (hF.q f F hpf).2
  unfold Oper.wp
  rw [hrun]
  rw [f3]
  refine hc.mono ?_
  rintro e w' ⟨u1, rfl, hfr, u2, bl', ty', hh', hro, hnd', hbl'⟩
  show next (a.put o.dst u1) w'
  obtain ⟨hnd1, hnd2⟩ := List.nodup_cons.1 hnd'
  have hsu : ∀ q x, ({ st with nodes := drops nd (lentA F.ps l) } : St).nodes q = some x → ({ st with nodes := drops nd (lentA F.ps l) } : St).used q = true := fun q x hx => by
    show st.used q = true
    rw [← hR.used]; exact hR.ok.used q x (hndm q x (drops_some hx).1).1
  obtain ⟨lc2, L⟩ := lay_sound (.pair F.res (.agg F.out)) res 0 { st with nodes := drops nd (lentA F.ps l) } s2 [x, y] j [] [u1, u2] bl' m.loc hsu hlay hro hnd2
  have hus : ∀ q, m.used q = true ↔ st.used q = true := fun q => by rw [hR.used]
  have hold : ∀ q z, m.used q = true → s2.nodes q = some z → nd q = some z ∧ q ∉ lentA F.ps l := fun q z hq hz => by
    have h3 := L.node q ((hus q).1 hq)
    rw [hz] at h3
    exact drops_some h3.symm
  have hnew : ∀ q z, m.used q = false → s2.nodes q = some z → s2.used q = true ∧ (∀ c, Blk (lc2 q) c → c ∈ bl') ∧ isRow z = true ∧ NodeW w' (fun b => b ∈ bl' ∨ b = g ∨ Y b) (lc2 q) z := fun q z hq hz => L.new q z (by rw [hR.used] at hq; exact hq) hz
  have hloc : ∀ q, m.used q = true → lc2 q = m.loc q := fun q hq => L.loc q ((hus q).1 hq)
  let m2 : Mem := ⟨w', upd s2.nodes b (some (.var F.k y)), s2.used, lc2, m.X⟩
  have hm2n : ∀ q z, m2.nodes q = some z → (q = b ∧ z = .var F.k y) ∨ (q ≠ b ∧ s2.nodes q = some z) := fun q z hz => by
    by_cases hq : q = b
    · subst hq; simp only [m2, upd_same] at hz; cases hz; exact .inl ⟨rfl, rfl⟩
    · simp only [m2, upd_other _ _ hq] at hz; exact .inr ⟨hq, hz⟩
  have hblk : ∀ q z, m2.nodes q = some z → ∀ c, Blk (m2.loc q) c → (q = b ∧ c = g) ∨ (m.used q = true ∧ nd q = some z ∧ q ∉ lentA F.ps l ∧ Blk (m.loc q) c) ∨ (m.used q = false ∧ c ∈ bl') := by
    intro q z hz c hc
    rcases hm2n q z hz with ⟨rfl, rfl⟩ | ⟨hq, hz'⟩
    · refine .inl ⟨rfl, ?_⟩
      have hc' : Blk (lc2 q) c := hc
      rw [hloc q hbu, e1] at hc'
      simpa [Blk, blkOf] using hc'.symm
    · cases hu : m.used q with
      | true =>
        obtain ⟨g1, g2⟩ := hold q z hu hz'
        have hc' : Blk (lc2 q) c := hc
        rw [hloc q hu] at hc'
        exact .inr (.inl ⟨rfl, g1, g2, hc'⟩)
      | false => exact .inr (.inr ⟨rfl, (hnew q z hu hz').2.1 c hc⟩)
  have hOL : ∀ c, m2.O c → c ∈ bl' ∨ c = g ∨ Y c := by
    rintro c (⟨q, z, hz, hc⟩ | hc)
    · rcases hblk q z hz c hc with ⟨_, h3⟩ | ⟨_, h3, h4, h5⟩ | ⟨_, h3⟩
      · exact .inr (.inl h3)
      · exact .inr (.inr (.inl ⟨q, z, h3, h4, h5⟩))
      · exact .inl h3
    · exact .inr (.inr (.inr hc))
  have hown : ∀ c, m2.own c → m.own c ∨ m.w.heap.size ≤ c := by
    rintro c ⟨q, z, hz, hc⟩
    rcases hblk q z hz c hc with ⟨_, rfl⟩ | ⟨_, h3, h4, h5⟩ | ⟨_, h3⟩
    · exact .inl (hO c (by simp))
    · exact .inl ⟨q, z, (hndm q z h3).1, h5⟩
    · rcases hbl' c h3 with h4 | h4
      · exact .inr h4
      · exact .inl (hO c (by simp [h4]))
  have hle : m.le m2 := by
    refine ⟨⟨fun c hc ho => hfr.block c hc fun hm => ho (.inl (hO c hm)), fun c hc ho => ?_⟩, fun q hq => L.used q ((hus q).1 hq), hloc, fun q z hq hz => ?_⟩
    · rcases ho with ho | ho
      · rcases hown c ho with h3 | h3
        · exact .inl h3
        · omega
      · exact .inr ho
    · rcases hm2n q z hz with ⟨rfl, rfl⟩ | ⟨hqb, hz'⟩
      · exact .inr ⟨_, hn', rfl⟩
      · exact .inr ⟨z, (hndm q z (hold q z hq hz').1).1, shape.refl z⟩
  have hrel := L.rel m2 rfl hOL fun q hq => ⟨hq, rfl⟩
  simp only [STup] at hrel
  obtain ⟨v1, vs1, hv1, hx, v2, vs2, hv2, hy, _⟩ := hrel
  cases hv1
  cases hv2
  have hR2 : Rel (s2.setNode b (some (.var F.k y))) a m2 w0 O0 n := by
    refine ⟨rfl, rfl, hR.ok.change rfl ⟨hfr.os, hfr.tape, hfr.output, hfr.size, fun c hc ho => hfr.block c hc fun hm => ho (hO c hm)⟩ ?_ ?_ hown ?_, fun t => ?_, hR.defers, hR.size, hR.fixed⟩
    · intro q z hz
      rcases hm2n q z hz with ⟨rfl, rfl⟩ | ⟨hqb, hz'⟩
      · exact ⟨g, _, ty', u2, (hloc q hbu).trans e1, hh', rfl, fits_form hfi hy, fitsD_of hfi, hy⟩
      · cases hu : m.used q with
        | true =>
          obtain ⟨g1, g2⟩ := hold q z hu hz'
          have g3 := (hndm q z g1).1
          exact (hR.ok.node q z g3).mono hle hu fun c hc => hfr.block c ((hR.ok.node q z g3).blk_lt hc) (hstay q z g1 c hc)
        | false => exact NodeW.rel (m := m2) (hnew q z hu hz').2.2.2 rfl hOL
    · intro q z hz
      rcases hm2n q z hz with ⟨rfl, rfl⟩ | ⟨hqb, hz'⟩
      · exact L.used q ((hus q).1 hbu)
      · cases hu : m.used q with
        | true => exact L.used q ((hus q).1 hu)
        | false => exact (hnew q z hu hz').1
    · intro q q' z z' c hz hz' hc hc'
      have key : ∀ q q' z z', m2.nodes q = some z → m2.nodes q' = some z' → Blk (m2.loc q) c → Blk (m2.loc q') c → m.used q = true → m.used q' = false → False := by
        intro q q' z z' hz hz' hc hc' hu hu'
        have hg3 : c ∈ bl' := by
          rcases hblk q' z' hz' c hc' with ⟨rfl, _⟩ | ⟨h3, _⟩ | ⟨_, h3⟩
          · rw [hbu] at hu'; cases hu'
          · rw [h3] at hu'; cases hu'
          · exact h3
        rcases hblk q z hz c hc with ⟨_, rfl⟩ | ⟨_, h3, h4, h5⟩ | ⟨h3, _⟩
        · exact hnd1 hg3
        · rcases hbl' c hg3 with h6 | h6
          · have := (hR.ok.node q z (hndm q z h3).1).blk_lt h5; omega
          · exact hstay q z h3 c h5 (by simp [h6])
        · rw [h3] at hu; cases hu
      cases hu : m.used q with
      | true =>
        cases hu' : m.used q' with
        | true =>
          rcases hblk q z hz c hc with ⟨rfl, rfl⟩ | ⟨_, h3, h4, h5⟩ | ⟨h3, _⟩
          · rcases hblk q' z' hz' c hc' with ⟨rfl, _⟩ | ⟨_, h3, h4, h5⟩ | ⟨h3, _⟩
            · rfl
            · exact absurd (List.mem_cons_self) (hstay q' z' h3 c h5)
            · rw [h3] at hu'; cases hu'
          · rcases hblk q' z' hz' c hc' with ⟨rfl, rfl⟩ | ⟨_, h3', h4', h5'⟩ | ⟨h3', _⟩
            · exact absurd (List.mem_cons_self) (hstay q z h3 c h5)
            · exact hR.ok.inj q q' z z' c (hndm q z h3).1 (hndm q' z' h3').1 h5 h5'
            · rw [h3'] at hu'; cases hu'
          · rw [h3] at hu; cases hu
        | false => exact (key q q' z z' hz hz' hc hc' hu hu').elim
      | false =>
        cases hu' : m.used q' with
        | true => exact (key q' q z' z hz' hz hc' hc hu' hu).elim
        | false =>
          have s1 : s2.nodes q = some z := by
            rcases hm2n q z hz with ⟨rfl, _⟩ | ⟨_, h3⟩
            · rw [hbu] at hu; cases hu
            · exact h3
          have s2' : s2.nodes q' = some z' := by
            rcases hm2n q' z' hz' with ⟨rfl, _⟩ | ⟨_, h3⟩
            · rw [hbu] at hu'; cases hu'
            · exact h3
          exact L.inj q q' z z' c (by rw [← hR.used]; exact hu) (by rw [← hR.used]; exact hu') s1 s2' hc hc'
    · show SRel m2 (s2.slots t) _
      rw [L.slo]
      exact SRel.mono hle _ (hR.slot t)
  exact hn2 _ _ (hR2.put o.dst hd hx)
theorem hard_callQ (hF : FnsOK P G cx) (hG : ∀ w', Frame0 w0 O0 w' → G w') (hR : Rel st a m w0 O0 n) (hd : ∀ t, o.dst = some t → t < n ∧ O0.fx t = none) {x : Operand} {args : Array Operand} {ts : Array TypeId}
    (ho : o.op = .call { callee := .value x, args := args, argTypes := ts }) {p : Nat × PFn} (hpf : pfOf cx x = some p) (h : hardC cx st o K = some r) : ∃ st', K st' = some r ∧ HOp P o a m.w st' w0 O0 n := by
  obtain ⟨f, F⟩ := p
  simp only [hardC, ho, hpf] at h
  split at h
  rotate_left
  · cases h
  rename_i b hev
  cases x <;> simp only [pfOf] at hpf <;> (try (cases hpf; done))
  rename_i f'
  split at hpf
  rotate_left
  · cases hpf
  rename_i F' hF'
  simp only [Option.some.injEq, Prod.mk.injEq] at hpf
  obtain ⟨rfl, rfl⟩ := hpf
  obtain ⟨y, hy⟩ : ∃ y, args.toList = [y] := by
    cases hl : args.toList with
    | nil => rw [hl] at hev; cases hev
    | cons y l =>
      cases l with
      | nil => exact ⟨y, rfl⟩
      | cons z l => rw [hl] at hev; simp at hev
  have hargs : args = #[y] := by apply Array.toList_inj.1; simp [hy]
  rw [hy] at hev
  simp only [List.map_cons, List.map_nil, List.cons.injEq, and_true] at hev
  have hs := evalS_sound hR y
  rw [hev] at hs
  refine callQ_sound hF hG hR hd hF' hs (fun hcb => ?_) h
  have hc := run_callFunc hcb #[a.eval y] m.w
  simp [execOp, ho, hargs, resolve, Act.eval, Deferred.ofValue, invoke]
  simpa [Act.eval] using hc
end
end Go.Fm
