/- The functional machine: calls. -/
import Derived.Test.YtobkiheihjdanaaDoorFmS
set_option autoImplicit true
set_option linter.unusedVariables false
set_option linter.unusedSimpArgs false
set_option linter.unusedSectionVars false
namespace Go.Fm
variable [Strict]

section
variable {P : Program} {cx : Ctx} {st st' : St} {a : Act} {m m' : Mem} {w0 : World} {O0 : OX} {n : Nat} {R : Type} {r : R} {G : World → Prop} {o : Oper} {K : St → Option R}

theorem fieldsT_all {f : Slot → (k : Kind) → Option k.T} : ∀ {l : List Slot} {b : Kind} {v : b.T}, fieldsT f b l = some v → ∀ x ∈ l, ∃ k v, f x k = some v
  | [], b, v, h, x, hx => by cases hx
  | y :: l, b, v, h, x, hx => by
    cases b with
    | pair a b =>
      simp only [fieldsT] at h
      cases h1 : f y a with
      | none => simp [h1] at h
      | some p =>
        cases h2 : fieldsT f b l with
        | none => simp [h1, h2] at h
        | some q =>
          rcases List.mem_cons.1 hx with rfl | hx
          · exact ⟨a, p, h1⟩
          · exact fieldsT_all h2 x hx
    | unit =>
      cases l with
      | nil => simp [fieldsT] at h; have := List.mem_singleton.1 hx; subst this; exact ⟨.unit, v, h⟩
      | cons z l => simp [fieldsT] at h
    | _ =>
      cases l with
      | nil => have := List.mem_singleton.1 hx; subst this; exact ⟨_, v, by simpa [fieldsT] using h⟩
      | cons z l => simp [fieldsT] at h
theorem asVal_alive {nodes : Nat → Option Node} : ∀ (k : Nat) (x : Slot) (kd : Kind) (v : kd.T), asVal nodes k x kd = some v → ∀ q ∈ roots k x, ∃ y, nodes q = some y
  | 0, _, _, _, h => by simp [asVal] at h
  | k + 1, x, kd, v, h => by
    cases x
    case box b path =>
      intro q' hq'
      cases path with
      | cons f p => simp [roots] at hq'
      | nil =>
        have := List.mem_singleton.1 hq'; subst this
        cases kd <;> simp only [asVal] at h <;> (try (cases h; done))
        cases hn : nodes q' with
        | none => simp [hn] at h
        | some y => exact ⟨y, rfl⟩
    all_goals simp only [roots]
    all_goals (try (intro q hq; cases hq; done))
    · rename_i q
      intro q' hq'
      have := List.mem_singleton.1 hq'; subst this
      simp only [asVal] at h
      cases hn : nodes q' with
      | none => simp [hn] at h
      | some y => exact ⟨y, rfl⟩
    · rename_i q lo hi
      intro q' hq'
      have := List.mem_singleton.1 hq'; subst this
      simp only [asVal] at h
      cases hn : nodes q' with
      | none => simp [hn] at h
      | some y => exact ⟨y, rfl⟩
    · rename_i k' l
      intro q hq
      obtain ⟨y, hy, hq⟩ := List.mem_flatMap.1 hq
      cases kd <;> simp only [asVal] at h <;> (try (cases h; done))
      split at h
      · obtain ⟨k2, v2, h2⟩ := fieldsT_all h y hy
        exact asVal_alive k y k2 v2 h2 q hq
      · cases h

/-- the blocks that are handed away -/
def handed (m : Mem) : List PS → List Slot → List Nat
  | .val _ :: ps, _ :: xs => handed m ps xs
  | .own _ _ :: ps, .root q :: xs => (blkOf (m.loc q)).toList ++ handed m ps xs
  | .own _ _ :: ps, _ :: xs => handed m ps xs
  | _, _ => []
theorem takeOwn_sound (hok : Ok m w0 O0) : ∀ (ps : List PS) (xs : List Slot) (cur nd : Nat → Option Node), (∀ q x, cur q = some x → m.nodes q = some x) → takeOwn cur ps xs = some nd →
    (∀ q x, nd q = some x → cur q = some x) ∧ (handed m ps xs).Nodup ∧ ∀ b ∈ handed m ps xs, ∃ q x, cur q = some x ∧ nd q = none ∧ blkOf (m.loc q) = some b
  | [], [], cur, nd, hc, h => by simp [takeOwn] at h; subst h; exact ⟨fun _ _ h => h, by simp [handed], by simp [handed]⟩
  | [], _ :: _, cur, nd, hc, h => by simp [takeOwn] at h
  | .val _ :: ps, [], cur, nd, hc, h => by simp [takeOwn] at h
  | .val _ :: ps, x :: xs, cur, nd, hc, h => by simp only [takeOwn] at h; simpa only [handed] using takeOwn_sound hok ps xs cur nd hc h
  | .own _ _ :: ps, [], cur, nd, hc, h => by simp [takeOwn] at h
  | .own _ _ :: ps, x :: xs, cur, nd, hc, h => by
    cases x <;> simp only [takeOwn] at h <;> (try (cases h; done))
    · simpa only [handed] using takeOwn_sound hok ps xs cur nd hc h
    · rename_i q
      split at h
      · rename_i ty e l hq
        have hc' : ∀ q' x, upd cur q none q' = some x → m.nodes q' = some x ∧ q' ≠ q ∧ cur q' = some x := fun q' x h => by
          by_cases hqq : q' = q
          · subst hqq; simp [upd_same] at h
          · rw [upd_other _ _ hqq] at h; exact ⟨hc q' x h, hqq, h⟩
        obtain ⟨h1, h2, h3⟩ := takeOwn_sound hok ps xs (upd cur q none) nd (fun q' x h => (hc' q' x h).1) h
        refine ⟨fun q' x hx => (hc' q' x (h1 q' x hx)).2.2, ?_, ?_⟩
        · simp only [handed]
          refine List.nodup_append.2 ⟨by cases blkOf (m.loc q) <;> simp, h2, ?_⟩
          intro b hb b' hb' hbb
          subst hbb
          obtain ⟨q', x', h4, _, h5⟩ := h3 b hb'
          obtain ⟨h6, h7, _⟩ := hc' q' x' h4
          exact h7 (hok.inj q' q x' _ b h6 (hc q _ hq) h5 (by simpa using hb))
        · intro b hb
          simp only [handed] at hb
          rcases List.mem_append.1 hb with hb | hb
          · refine ⟨q, _, hq, ?_, by simpa using hb⟩
            cases hn : nd q with
            | none => rfl
            | some x => have := hc' q x (h1 q x hn); exact absurd rfl this.2.1
          · obtain ⟨q', x', h4, h5, h6⟩ := h3 b hb
            exact ⟨q', x', (hc' q' x' h4).2.2, h5, h6⟩
      · cases h

theorem argsT_sound (hR : Rel st a m w0 O0 n) {nd : Nat → Option Node} {BL : List Nat} (hsub : ∀ q x, nd q = some x → st.nodes q = some x) (hBL : ∀ b ∈ BL, ∃ q x, st.nodes q = some x ∧ nd q = none ∧ blkOf (m.loc q) = some b) {Y : Nat → Prop} (hY : ∀ b, Y b → m.O b) :
    ∀ (ps : List PS) (xs : List Slot) (us : List Value) (v : ArgsT ps), STup m xs us → (∀ q ∈ lentA ps xs, ∀ b, blkOf (m.loc q) = some b → ¬ Y b) → argsT st.nodes nd ps xs = some v → ArgsOK m.w (fun b => b ∈ BL ∨ Y b) ps v us (handed m ps xs)
  | [], [], us, v, hs, hl, h => by simp only [STup] at hs; exact ⟨hs, rfl⟩
  | [], _ :: _, us, v, hs, hl, h => by simp [argsT] at h
  | .val k :: ps, [], us, v, hs, hl, h => by simp [argsT] at h
  | .val k :: ps, x :: xs, us, v, hs, hl, h => by
    simp only [argsT] at h
    cases hx : asVal nd 8 x k with
    | none => simp [hx] at h
    | some y =>
      cases hr : argsT st.nodes nd ps xs with
      | none => simp [hx, hr] at h
      | some ys =>
        simp [hx, hr] at h; subst h
        simp only [STup] at hs
        obtain ⟨u, us', rfl, h1, h2⟩ := hs
        simp only [lentA, List.mem_append] at hl
        refine ⟨u, us', rfl, ?_, argsT_sound hR hsub hBL hY ps xs us' ys h2 (fun q hq => hl q (.inr hq)) hr⟩
        have hin : ∀ q x, st.nodes q = some x → m.nodes q = some x := fun q x h => by rw [hR.nodes]; exact h
        refine asVal_sound (m := m) (nodes := nd) (fun q x h => hin q x (hsub q x h)) hR.ok.node ?_ 8 x k y u hx h1 ?_
        · rintro b (hb | hb)
          · obtain ⟨q, x, h3, _, h4⟩ := hBL b hb
            exact .inl ⟨q, x, hin q x h3, h4⟩
          · exact hY b hb
        · rintro q hq b hb (hbl | hbl)
          rotate_left
          · exact hl q (.inl hq) b hb hbl
          obtain ⟨q', x', h3, h4, h5⟩ := hBL b hbl
          obtain ⟨z, hz⟩ := asVal_alive 8 x k y hx q hq
          have : q = q' := hR.ok.inj q q' z x' b (hin q z (hsub q z hz)) (hin q' x' h3) hb h5
          subst this; rw [h4] at hz; cases hz
  | .own ty e :: ps, [], us, v, hs, hl, h => by simp [argsT] at h
  | .own ty e :: ps, x :: xs, us, v, hs, hl, h => by
    simp only [STup] at hs
    obtain ⟨u, us', rfl, h1, h2⟩ := hs
    have hin : ∀ q x, st.nodes q = some x → m.nodes q = some x := fun q x h => by rw [hR.nodes]; exact h
    have hO : ∀ b, b ∈ BL ∨ Y b → m.O b := by
      rintro b (hb | hb)
      · obtain ⟨q, x, h3, _, h4⟩ := hBL b hb
        exact .inl ⟨q, x, hin q x h3, h4⟩
      · exact hY b hb
    simp only [lentA] at hl
    cases x <;> simp only [argsT] at h <;> (try (cases h; done))
    · cases hr : argsT st.nodes nd ps xs with
      | none => simp [hr] at h
      | some ys =>
        simp [hr] at h; subst h
        simp only [SRel] at h1; subst h1
        refine ⟨_, us', [], handed m ps xs, rfl, by simp [handed, blkOf], World.ownsRow_nil _ _ _ _, rfl, argsT_sound hR hsub hBL hY ps xs us' ys h2 hl hr⟩
    · rename_i q
      split at h
      · rename_i ty' e' l hn
        split at h
        · rename_i hty
          split at h
          · rename_i l' hc
            cases hr : argsT st.nodes nd ps xs with
            | none => simp [hr] at h
            | some ys =>
              simp [hr] at h; subst h
              obtain ⟨hke, hl⟩ := cast?_some hc
              cases hke
              dsimp only at hl; subst hl
              simp only [SRel] at h1
              have h3 := h1.2.2 ty' e l (hin q _ hn)
              obtain ⟨ys', h4, h5⟩ := row_loc hR hn
              rw [← hty] at h4
              exact ⟨u, us', ys', handed m ps xs, rfl, by simp [handed, h3], by rw [h3]; exact h4, h5.imp fun c x hc => hc.keep (Keep.less hO), argsT_sound hR hsub hBL hY ps xs us' ys h2 hl hr⟩
          · cases h
        · cases h
      · cases h

/-- what a laid result is -/
structure Laid (w' : World) (O' : Nat → Prop) (s s2 : St) (lc lc2 : Nat → Value) (slots : List Slot) (us : List Value) (bl : List Nat) (before : Nat → Option Node) (xs : List Slot) (args : List Value) (rn : List (Nat × Nat)) : Prop where
  loc : ∀ q, s.used q = true → lc2 q = lc q
  used : ∀ q, s.used q = true → s2.used q = true
  node : ∀ q, s.used q = true → s2.nodes q = s.nodes q
  slo : s2.slots = s.slots
  new : ∀ q x, s.used q = false → s2.nodes q = some x → s2.used q = true ∧ (∀ b, blkOf (lc2 q) = some b → b ∈ bl) ∧
    ∃ ty e l xs, x = .row ty e l ∧ w'.ownsRow 0 ty (width e) (lc2 q) l.length xs ∧ Rows (Cells w' O' e) xs l
  inj : ∀ q q' x x' b, s.used q = false → s.used q' = false → s2.nodes q = some x → s2.nodes q' = some x' → blkOf (lc2 q) = some b → blkOf (lc2 q') = some b → q = q'
  ren : ∀ p ∈ rn, s.used p.2 = false ∧ s2.used p.2 = true ∧ (∃ B n c, lc2 p.2 = .slice B n c) ∧ ∃ i : Nat, xs[i]? = some (Slot.root p.1) ∧ args[i]? = some (lc2 p.2) ∧ ∃ ty e l, before p.1 = some (Node.row ty e l)
  rel : ∀ m2 : Mem, m2.w = w' → (∀ b, m2.O b → O' b) → (∀ q, s2.used q = true → m2.used q = true ∧ m2.loc q = lc2 q) → STup m2 slots us
theorem lay_sound {w' : World} {O' : Nat → Prop} {base : Nat} {before : Nat → Option Node} {xs : List Slot} {args : List Value} : ∀ (r : RS) (v : r.T) (j : Nat) (s s2 : St) (slots : List Slot) (j2 : Nat) (rn : List (Nat × Nat)) (us : List Value) (bl : List Nat) (lc : Nat → Value), (∀ q x, s.nodes q = some x → s.used q = true) →
    layRes base before xs r v j s = some (slots, j2, s2, rn) → ROut w' O' args r v us bl → bl.Nodup → ∃ lc2, Laid w' O' s s2 lc lc2 slots us bl before xs args rn
  | .val k, v, j, s, s2, slots, j2, rn, us, bl, lc, hs, h, ho, hnd => by
    simp only [layRes, Option.some.injEq, Prod.mk.injEq] at h
    obtain ⟨rfl, _, rfl, rfl⟩ := h
    obtain ⟨h1, u, rfl, h3⟩ := ho
    refine ⟨lc, fun _ _ => rfl, fun _ h => h, fun _ _ => rfl, rfl, fun q x hq hx => ?_, fun q q' x x' b hq hq' hx => ?_, by simp, fun m2 hw hO _ => ?_⟩
    · have := hs q x hx; rw [hq] at this; cases this
    · have := hs q x hx; rw [hq] at this; cases this
    · simp only [STup]
      exact ⟨u, [], rfl, SRel.valI (by rw [hw]; exact h3.keep (Keep.less hO)), rfl⟩
  | .own ty e, l, j, s, s2, slots, j2, rn, us, bl, lc, hs, h, ho, hnd => by
    simp only [layRes] at h
    split at h
    · rename_i s' hmk
      simp only [Option.some.injEq, Prod.mk.injEq] at h
      obtain ⟨rfl, _, rfl, rfl⟩ := h
      obtain ⟨u, ys, rfl, hbl, h1, h2⟩ := ho
      obtain ⟨e1, e2, e3, e4⟩ := make_some hmk
      have hne : ∀ q, s.used q = true → q ≠ Nat.add base j := fun q hq e => by rw [e, e1] at hq; cases hq
      have hnew : ∀ q x, s.used q = false → s'.nodes q = some x → q = Nat.add base j ∧ x = .row ty e l := fun q x hq hx => by
        rw [e2] at hx
        by_cases hqi : q = Nat.add base j
        · subst hqi; simp only [upd_same] at hx; cases hx; exact ⟨rfl, rfl⟩
        · rw [upd_other _ _ hqi] at hx
          have := hs q x hx; rw [hq] at this; cases this
      refine ⟨upd lc (Nat.add base j) u, fun q hq => upd_other _ _ (hne q hq), fun q hq => by rw [e3, upd_other _ _ (hne q hq)]; exact hq, fun q hq => by rw [e2, upd_other _ _ (hne q hq)], e4, ?_, ?_, by simp, ?_⟩
      · intro q x hq hx
        obtain ⟨rfl, rfl⟩ := hnew q x hq hx
        refine ⟨by rw [e3, upd_same], fun b hb => by rw [upd_same] at hb; rw [hbl, hb]; simp, ty, e, l, ys, rfl, by rw [upd_same]; exact h1, h2⟩
      · intro q q' x x' b hq hq' hx hx' _ _
        rw [(hnew q x hq hx).1, (hnew q' x' hq' hx').1]
      · intro m2 hw hO hm
        simp only [STup]
        refine ⟨u, [], rfl, ?_, rfl⟩
        have := hm (Nat.add base j) (by rw [e3, upd_same])
        rw [upd_same] at this
        obtain ⟨B, c, h5, _⟩ := row_val h1
        simp only [SRel]
        exact ⟨this.1, ⟨B, _, c, h5⟩, fun _ _ _ _ => this.2.symm⟩
    · cases h
  | .pair ra rb, v, j, s, s2, slots, j2, rn, us, bl, lc, hs, h, ho, hnd => by
    simp only [layRes] at h
    split at h
    · rename_i x j1 s1 rn1 h1
      split at h
      · rename_i y j3 s3 rn2 h2
        simp only [Option.some.injEq, Prod.mk.injEq] at h
        obtain ⟨rfl, _, rfl, rfl⟩ := h
        obtain ⟨u, us', b1, b2, rfl, rfl, ho1, ho2⟩ := ho
        obtain ⟨hn1, hn2, hn3⟩ := List.nodup_append.1 hnd
        obtain ⟨lc1, L1⟩ := lay_sound ra v.1 j s s1 x j1 rn1 [u] b1 lc hs h1 ho1 hn1
        have hs1 : ∀ q x, s1.nodes q = some x → s1.used q = true := fun q x hx => by
          cases hq : s.used q with
          | true => exact L1.used q hq
          | false => exact (L1.new q x hq hx).1
        obtain ⟨lc2, L2⟩ := lay_sound rb v.2 j1 s1 s3 y j3 rn2 us' b2 lc1 hs1 h2 ho2 hn2
        refine ⟨lc2, fun q hq => (L2.loc q (L1.used q hq)).trans (L1.loc q hq), fun q hq => L2.used q (L1.used q hq), fun q hq => (L2.node q (L1.used q hq)).trans (L1.node q hq), L2.slo.trans L1.slo, ?_, ?_, ?_, ?_⟩
        · intro q z hq hz
          cases hq1 : s1.used q with
          | true =>
            rw [L2.node q hq1] at hz
            obtain ⟨g1, g2, g3⟩ := L1.new q z hq hz
            rw [L2.loc q hq1]
            exact ⟨L2.used q hq1, fun b hb => List.mem_append.2 (.inl (g2 b hb)), g3⟩
          | false =>
            obtain ⟨g1, g2, g3⟩ := L2.new q z hq1 hz
            exact ⟨g1, fun b hb => List.mem_append.2 (.inr (g2 b hb)), g3⟩
        · intro q q' z z' b hq hq' hz hz' hb hb'
          cases hq1 : s1.used q with
          | true =>
            rw [L2.node q hq1] at hz
            rw [L2.loc q hq1] at hb
            cases hq2 : s1.used q' with
            | true =>
              rw [L2.node q' hq2] at hz'
              rw [L2.loc q' hq2] at hb'
              exact L1.inj q q' z z' b hq hq' hz hz' hb hb'
            | false =>
              exact absurd rfl (hn3 b ((L1.new q z hq hz).2.1 b hb) b ((L2.new q' z' hq2 hz').2.1 b hb'))
          | false =>
            cases hq2 : s1.used q' with
            | true =>
              rw [L2.node q' hq2] at hz'
              rw [L2.loc q' hq2] at hb'
              exact absurd rfl (hn3 b ((L1.new q' z' hq' hz').2.1 b hb') b ((L2.new q z hq1 hz).2.1 b hb))
            | false => exact L2.inj q q' z z' b hq1 hq2 hz hz' hb hb'
        · intro p hp
          rcases List.mem_append.1 hp with hp | hp
          · obtain ⟨g0, g1, g2, i, g3, g4, g5⟩ := L1.ren p hp
            exact ⟨g0, L2.used _ g1, by rw [L2.loc _ g1]; exact g2, i, g3, by rw [L2.loc _ g1]; exact g4, g5⟩
          · obtain ⟨g0, g1, g2, i, g3, g4, g5⟩ := L2.ren p hp
            refine ⟨?_, g1, g2, i, g3, g4, g5⟩
            cases hq : s.used p.2 with
            | false => rfl
            | true => rw [L1.used _ hq] at g0; cases g0
        · intro m2 hw hO hm
          have t1 := L1.rel m2 hw hO fun q hq => by
            have := hm q (L2.used q hq)
            rw [L2.loc q hq] at this
            exact this
          have t2 := L2.rel m2 hw hO hm
          simpa using STup_append t1 t2
      · cases h
    · cases h
  | .agg _, v, j, s, s2, slots, j2, rn, us, bl, lc, hs, h, ho, hnd => by simp [layRes] at h
  | .tup ra, v, j, s, s2, slots, j2, rn, us, bl, lc, hs, h, ho, hnd => by
    simp only [layRes] at h
    split at h
    · rename_i x j1 s1 rn1 h1
      simp only [Option.some.injEq, Prod.mk.injEq] at h
      obtain ⟨rfl, _, rfl, rfl⟩ := h
      obtain ⟨us', rfl, ho1⟩ := ho
      obtain ⟨lc1, L1⟩ := lay_sound ra v j s s1 x j1 rn1 us' bl lc hs h1 ho1 hnd
      refine ⟨lc1, L1.loc, L1.used, L1.node, L1.slo, L1.new, L1.inj, L1.ren, fun m2 hw hO hm => ?_⟩
      have := L1.rel m2 hw hO hm
      simp only [STup, SRel]
      exact ⟨_, [], rfl, ⟨us', rfl, this⟩, rfl⟩
    · cases h
  | .nil, v, j, s, s2, slots, j2, rn, us, bl, lc, hs, h, ho, hnd => by
    simp only [layRes, Option.some.injEq, Prod.mk.injEq] at h
    obtain ⟨rfl, _, rfl, rfl⟩ := h
    obtain ⟨rfl, rfl⟩ := ho
    refine ⟨lc, fun _ _ => rfl, fun _ h => h, fun _ _ => rfl, rfl, fun q x hq hx => ?_, fun q q' x x' b hq hq' hx => ?_, by simp, fun m2 hw hO _ => by simp [STup]⟩
    · have := hs q x hx; rw [hq] at this; cases this
    · have := hs q x hx; rw [hq] at this; cases this
  | .back i ty e ra, v, j, s, s2, slots, j2, rn, us, bl, lc, hs, h, ho, hnd => by
    obtain ⟨u, ys, b2, hu, hbl, h1, h2, ho2⟩ := ho
    simp only [layRes] at h
    split at h
    · rename_i q0 hq0
      split at h
      · rename_i ty0 e0 l0 hb0
        split at h
        · rename_i s' hmk
          split at h
          · rename_i x j' s'' rn' hla
            simp only [Option.some.injEq, Prod.mk.injEq] at h
            obtain ⟨rfl, _, rfl, rfl⟩ := h
            obtain ⟨e1, e2, e3, e4⟩ := make_some hmk
            subst hbl
            obtain ⟨hn1, hn2, hn3⟩ := List.nodup_append.1 hnd
            have hne : ∀ q, s.used q = true → q ≠ Nat.add base j := fun q hq e => by rw [e, e1] at hq; cases hq
            have hnew : ∀ q x, s.used q = false → s'.nodes q = some x → q = Nat.add base j ∧ x = .row ty e v.1 := fun q x hq hx => by
              rw [e2] at hx
              by_cases hqi : q = Nat.add base j
              · subst hqi; simp only [upd_same] at hx; cases hx; exact ⟨rfl, rfl⟩
              · rw [upd_other _ _ hqi] at hx
                have := hs q x hx; rw [hq] at this; cases this
            have hs1 : ∀ q x, s'.nodes q = some x → s'.used q = true := fun q x hx => by
              cases hq : s.used q with
              | true => rw [e3, upd_other _ _ (hne q hq)]; exact hq
              | false => rw [(hnew q x hq hx).1, e3, upd_same]
            obtain ⟨lc2, L2⟩ := lay_sound ra v.2 (Nat.succ j) s' s'' x j' rn' us b2 (upd lc (Nat.add base j) u) hs1 hla ho2 hn2
            have hu1 : s'.used (Nat.add base j) = true := by rw [e3, upd_same]
            have hk1 : ∀ q, s.used q = true → s'.used q = true := fun q hq => by rw [e3, upd_other _ _ (hne q hq)]; exact hq
            have hl1 : lc2 (Nat.add base j) = u := by rw [L2.loc _ hu1, upd_same]
            obtain ⟨B, c, h5, _⟩ := row_val h1
            refine ⟨lc2, fun q hq => (L2.loc q (hk1 q hq)).trans (upd_other _ _ (hne q hq)), fun q hq => L2.used q (hk1 q hq), fun q hq => (L2.node q (hk1 q hq)).trans (by rw [e2, upd_other _ _ (hne q hq)]), L2.slo.trans e4, ?_, ?_, ?_, ?_⟩
            · intro q z hq hz
              cases hq1 : s'.used q with
              | true =>
                rw [L2.node q hq1] at hz
                obtain ⟨rfl, rfl⟩ := hnew q z hq hz
                refine ⟨L2.used _ hq1, fun b hb => List.mem_append.2 (.inl ?_), ty, e, v.1, ys, rfl, by rw [hl1]; exact h1, h2⟩
                rw [hl1] at hb; rw [hb]; simp
              | false =>
                obtain ⟨g1, g2, g3⟩ := L2.new q z hq1 hz
                exact ⟨g1, fun b hb => List.mem_append.2 (.inr (g2 b hb)), g3⟩
            · intro q q' z z' b hq hq' hz hz' hb hb'
              cases hq1 : s'.used q with
              | true =>
                rw [L2.node q hq1] at hz
                obtain ⟨rfl, rfl⟩ := hnew q z hq hz
                rw [hl1] at hb
                cases hq2 : s'.used q' with
                | true =>
                  rw [L2.node q' hq2] at hz'
                  exact (hnew q' z' hq' hz').1.symm
                | false => exact absurd rfl (hn3 b (by rw [hb]; simp) b ((L2.new q' z' hq2 hz').2.1 b hb'))
              | false =>
                cases hq2 : s'.used q' with
                | true =>
                  rw [L2.node q' hq2] at hz'
                  obtain ⟨rfl, rfl⟩ := hnew q' z' hq' hz'
                  rw [hl1] at hb'
                  exact absurd rfl (hn3 b (by rw [hb']; simp) b ((L2.new q z hq1 hz).2.1 b hb))
                | false => exact L2.inj q q' z z' b hq1 hq2 hz hz' hb hb'
            · intro p hp
              rcases List.mem_cons.1 hp with rfl | hp
              · exact ⟨e1, L2.used _ hu1, by rw [hl1]; exact ⟨B, _, c, h5⟩, i, hq0, by rw [hl1]; exact hu, ty0, e0, l0, hb0⟩
              · obtain ⟨g0, g1⟩ := L2.ren p hp
                refine ⟨?_, g1⟩
                cases hq : s.used p.2 with
                | false => rfl
                | true => rw [hk1 _ hq] at g0; cases g0
            · exact fun m2 hw hO hm => L2.rel m2 hw hO hm
          · cases h
        · cases h
      · cases h
    · obtain ⟨hn1, hn2, hn3⟩ := List.nodup_append.1 (hbl ▸ hnd)
      obtain ⟨lc2, L2⟩ := lay_sound ra v.2 j s s2 slots j2 rn us b2 lc hs h ho2 hn2
      exact ⟨lc2, L2.loc, L2.used, L2.node, L2.slo, fun q x hq hx => ⟨(L2.new q x hq hx).1, fun b hb => by rw [hbl]; exact List.mem_append.2 (.inr ((L2.new q x hq hx).2.1 b hb)), (L2.new q x hq hx).2.2⟩, L2.inj, L2.ren, L2.rel⟩
    · cases h

theorem ren_sound {s2 : St} {m m2 : Mem} {t : Nat} {u : Value} {rn : List (Nat × Nat)} (h2 : SRel m2 (s2.slots t) u) (h1 : SRel m (s2.slots t) u)
    (hr : ∀ p ∈ rn, m2.used p.2 = true ∧ (∃ B n c, m2.loc p.2 = .slice B n c) ∧ m.loc p.1 = m2.loc p.2 ∧ ∃ ty e l, m.nodes p.1 = some (Node.row ty e l)) : SRel m2 ((s2.ren rn).slots t) u := by
  have key : ∀ (l : List (Nat × Nat)), (∀ p ∈ l, p ∈ rn) → SRel m2 (renR l (s2.slots t)) u := by
    intro l
    induction l with
    | nil => intro _; exact h2
    | cons p l ih =>
      intro hl
      have ih := ih fun q hq => hl q (List.mem_cons_of_mem _ hq)
      cases hs : s2.slots t with
      | root q' =>
        rw [hs] at ih
        simp only [renR]
        cases hb : Nat.beq q' p.1 with
        | false => exact ih
        | true =>
          have hqq : q' = p.1 := Nat.eq_of_beq_eq_true hb
          subst hqq
          obtain ⟨g1, g2, g3, ty, e, l0, g4⟩ := hr p (hl p List.mem_cons_self)
          rw [hs] at h1
          simp only [SRel] at h1
          have hu := h1.2.2 ty e l0 g4
          rw [cond_true]
          simp only [SRel]
          rw [hu, g3]
          exact ⟨g1, g2, fun _ _ _ _ => rfl⟩
      | _ => simpa only [renR, hs] using h2
  cases rn with
  | nil => exact h2
  | cons p l => exact key (p :: l) (fun _ h => h)

theorem Frame0.trans' {w w' w'' : World} {O : Nat → Prop} {BL : Nat → Prop} (h : Frame0 w O w') (hf : Frame0 w' BL w'') (hB : ∀ b, BL b → w.heap.size ≤ b ∨ O b) : Frame0 w O w'' :=
  ⟨hf.os.trans h.os, ⟨hf.tape.1.trans h.tape.1, fun hs => Nat.le_trans (h.tape.2 hs) (hf.tape.2 hs)⟩, hf.output.trans h.output, Nat.le_trans h.size hf.size, fun b hb ho =>
    (hf.block b (Nat.lt_of_lt_of_le hb h.size) fun hx => by rcases hB b hx with h1 | h1; omega; exact ho h1).trans (h.block b hb ho)⟩

theorem ROut.flat_any {w : World} {O O' : Nat → Prop} {args : List Value} : ∀ {r : RS} {v : r.T} {us : List Value} {bl : List Nat}, r.flatR = true → ROut w O args r v us bl → ROut w O' args r v us bl
  | .val k, v, us, bl, hf, ⟨h1, u, h2, h3⟩ => ⟨h1, u, h2, h3.flat_any hf⟩
  | .own ty e, v, us, bl, hf, ⟨u, xs, h1, h2, h3, h4⟩ => ⟨u, xs, h1, h2, h3, h4.imp fun c x hc => hc.flat_any hf⟩
  | .pair a b, v, us, bl, hf, ⟨u, us', b1, b2, h1, h2, h3, h4⟩ => by
    simp only [RS.flatR, Bool.and_eq_true] at hf
    exact ⟨u, us', b1, b2, h1, h2, ROut.flat_any hf.1 h3, ROut.flat_any hf.2 h4⟩
  | .agg a, v, us, bl, hf, ⟨us', h1, h2⟩ => ⟨us', h1, ROut.flat_any (r := a) hf h2⟩
  | .tup a, v, us, bl, hf, ⟨us', h1, h2⟩ => ⟨us', h1, ROut.flat_any (r := a) hf h2⟩
  | .nil, v, us, bl, hf, h => h
  | .back i ty e a, v, us, bl, hf, ⟨u, xs, b2, h1, h2, h3, h4, h5⟩ => by
    simp only [RS.flatR, Bool.and_eq_true] at hf
    exact ⟨u, xs, b2, h1, h2, h3, h4.imp fun c x hc => hc.flat_any hf.1, ROut.flat_any hf.2 h5⟩

theorem drops_some {nodes : Nat → Option Node} {l : List Nat} {q : Nat} {x : Node} (h : drops nodes l q = some x) : nodes q = some x ∧ q ∉ l := by
  unfold drops at h
  cases hb : l.contains q with
  | true => rw [hb] at h; cases h
  | false => rw [hb] at h; exact ⟨h, by simpa using hb⟩
theorem behind_some {F : Fn} {nd : Nat → Option Node} {xs : List Slot} {q : Nat} {x : Node} (h : behind F nd xs q = some x) : nd q = some x ∧ (F.res.flatR = true ∨ q ∉ lentA F.ps xs) := by
  unfold behind at h
  cases hb : F.res.flatR with
  | true => rw [hb] at h; exact ⟨h, .inl rfl⟩
  | false => rw [hb] at h; exact ⟨(drops_some h).1, .inr (drops_some h).2⟩
theorem argsT_alive {before nd : Nat → Option Node} : ∀ (ps : List PS) (xs : List Slot) (v : ArgsT ps), argsT before nd ps xs = some v → ∀ q ∈ lentA ps xs, ∃ x, nd q = some x
  | [], [], v, h => by simp [lentA]
  | [], _ :: _, v, h => by simp [lentA]
  | .val k :: ps, [], v, h => by simp [lentA]
  | .val k :: ps, x :: xs, v, h => by
    simp only [argsT] at h
    cases hx : asVal nd 8 x k with
    | none => simp [hx] at h
    | some y =>
      cases hr : argsT before nd ps xs with
      | none => simp [hx, hr] at h
      | some ys =>
        intro q hq
        simp only [lentA, List.mem_append] at hq
        rcases hq with hq | hq
        · exact asVal_alive 8 x k y hx q hq
        · exact argsT_alive ps xs ys hr q hq
  | .own ty e :: ps, [], v, h => by simp [lentA]
  | .own ty e :: ps, x :: xs, v, h => by
    simp only [lentA]
    cases x <;> simp only [argsT] at h <;> (try (cases h; done))
    · cases hr : argsT before nd ps xs with
      | none => simp [hr] at h
      | some ys => exact argsT_alive ps xs ys hr
    · split at h
      · split at h
        · split at h
          · cases hr : argsT before nd ps xs with
            | none => simp [hr] at h
            | some ys => exact argsT_alive ps xs ys hr
          · cases h
        · cases h
      · cases h

theorem handed_none : ∀ {ps : List PS} {xs : List Slot}, noOwn ps = true → handed m ps xs = []
  | [], xs, h => by cases xs <;> rfl
  | .val _ :: ps, [], h => rfl
  | .val _ :: ps, _ :: xs, h => by simp only [handed]; exact handed_none (ps := ps) h
  | .own _ _ :: ps, xs, h => by simp [noOwn] at h
theorem growFn_pick {f : Nat} {xs : List Slot} {F : Fn} (h : growFn cx f = true) (hp : pickF cx f xs = some F) : noOwn F.ps = true := by
  unfold growFn at h
  unfold pickF at hp
  cases hf : cx.fn f with
  | some F' => rw [hf] at hp h; cases hp; exact h
  | none =>
    rw [hf] at hp h
    exact List.all_eq_true.1 h F (firstF_mem hp)
theorem handed_row {m : Mem} : ∀ (ps : List PS) (xs : List Slot) (cur nd : Nat → Option Node), (∀ q x, cur q = some x → m.nodes q = some x) → takeOwn cur ps xs = some nd → ∀ b ∈ handed m ps xs, RowB m b
  | [], [], cur, nd, hc, h => by simp [handed]
  | [], _ :: _, cur, nd, hc, h => by simp [handed]
  | .val _ :: ps, [], cur, nd, hc, h => by simp [handed]
  | .own _ _ :: ps, [], cur, nd, hc, h => by simp [handed]
  | .val _ :: ps, x :: xs, cur, nd, hc, h => by
    simp only [takeOwn] at h
    simpa only [handed] using handed_row ps xs cur nd hc h
  | .own ty e :: ps, x :: xs, cur, nd, hc, h => by
    cases x <;> simp only [takeOwn] at h <;> (try (cases h; done))
    · simpa only [handed] using handed_row ps xs cur nd hc h
    · rename_i q
      split at h
      · rename_i ty' e' l hq
        intro b hb
        simp only [handed, List.mem_append, Option.mem_toList] at hb
        rcases hb with hb | hb
        · exact ⟨q, _, _, _, hc q _ hq, hb⟩
        · refine handed_row ps xs _ nd (fun q' x hx => hc q' x ?_) h b hb
          by_cases hqq : q' = q
          · subst hqq; rw [upd_same] at hx; cases hx
          · rwa [upd_other _ _ hqq] at hx
      · cases h
theorem callH_sound (hF : FnsOK P G cx) (hG : ∀ w', Frame0 w0 O0 w' → G w') (hR : Rel st a m w0 O0 n) (hd : ∀ t, o.dst = some t → t < n ∧ O0.fx t = none) {f : Nat} {xs : List Slot} {us : List Value} (hs : STup m xs us)
    (hrun0 : callable P f = true → (execOp a.eval o).run P m.w = .ok (.enter f us.toArray) m.w) (h : callH cx st o K f xs = some r) : ∃ st', K st' = some r ∧ ∃ Z, HOpR P o a m st' w0 O0 n Z ∧ (growFn cx f = true → ∀ b, ¬ Z b) ∧ ∀ b, Z b → RowB m b := by
  simp only [callH] at h
  split at h
  · rename_i F hf
    split at h
    · rename_i nd hnd
      split at h
      · rename_i v hv
        obtain ⟨res, h1, h2⟩ := Option.bind_eq_some_iff.1 h
        split at h2
        · rename_i x j s2 rn hlay
          have hin : ∀ q x, st.nodes q = some x → m.nodes q = some x := fun q x h => by rw [hR.nodes]; exact h
          obtain ⟨k1, k2, k3⟩ := takeOwn_sound hR.ok F.ps _ st.nodes nd hin hnd
          have hal := argsT_alive F.ps _ v hv
          have hO : ∀ b ∈ handed m F.ps xs, m.own b := fun b hb => by
            obtain ⟨q, x, h3, _, h4⟩ := k3 b hb
            exact ⟨q, x, hin q x h3, h4⟩
          -- what the callee keeps away from
          let Y : Nat → Prop := fun b => (∃ q x, nd q = some x ∧ q ∉ lentA F.ps xs ∧ blkOf (m.loc q) = some b) ∨ m.X b
          have hY : ∀ b, Y b → m.O b := by
            rintro b (⟨q, x, h3, _, h4⟩ | hb)
            · exact .inl ⟨q, x, hin q x (k1 q x h3), h4⟩
            · exact .inr hb
          have hlent : ∀ q ∈ lentA F.ps xs, ∀ b, blkOf (m.loc q) = some b → ¬ Y b := by
            intro q hq b hb hyb
            obtain ⟨z, hz⟩ := hal q hq
            rcases hyb with ⟨q', x, h3, h4, h5⟩ | hyb
            · have : q = q' := hR.ok.inj q q' z x b (hin q z (k1 q z hz)) (hin q' x (k1 q' x h3)) hb h5
              subst this; exact h4 hq
            · exact hR.ok.apart ⟨q, z, hin q z (k1 q z hz), hb⟩ hyb
          have hfar : ∀ b, Y b → b < m.w.heap.size ∧ ¬ b ∈ handed m F.ps xs := by
            intro b hb
            refine ⟨hR.ok.O_lt (hY b hb), fun hbl => ?_⟩
            obtain ⟨q', x', h3, h4, h5⟩ := k3 b hbl
            rcases hb with ⟨q, x, g3, _, g5⟩ | hb
            · have : q = q' := hR.ok.inj q q' x x' b (hin q x (k1 q x g3)) (hin q' x' h3) g5 h5
              subst this; rw [h4] at g3; cases g3
            · exact hR.ok.apart (hO b hbl) hb
          have ha := argsT_sound hR k1 k3 hY F.ps _ _ v hs hlent hv
          have hc := (hF.pick hf).1 v res m.w _ _ Y h1 ha k2 hfar fun w'' hf' => hG w'' (hR.ok.frame.trans' hf' fun b hb => hR.ok.base b (hO b hb))
          refine ⟨_, h2, (· ∈ handed m F.ps xs), fun next Q hn => ?_, fun hg b hb => (by rw [handed_none (growFn_pick hg hf)] at hb; cases hb), handed_row F.ps xs st.nodes nd hin hnd⟩
          have hrun := hrun0 (hF.pick hf).2
          unfold Oper.wp
          rw [hrun]
          refine hc.mono ?_
          rintro e w' ⟨u, rfl, hfr, bl', hro, hnd', hbl'⟩
          show next (a.put o.dst u) w'
          have hb1 : ∀ q x, behind F nd xs q = some x → nd q = some x := fun q x h => (behind_some h).1
          have hsu : ∀ q x, ({ st with nodes := behind F nd xs } : St).nodes q = some x → ({ st with nodes := behind F nd xs } : St).used q = true := fun q x hx => by
            show st.used q = true
            rw [← hR.used]; exact hR.ok.used q x (hin q x (k1 q x (hb1 q x hx)))
          -- what the results keep away from
          obtain ⟨Z, hZ, hro⟩ : ∃ Z : Nat → Prop, (∀ q x b, behind F nd xs q = some x → blkOf (m.loc q) = some b → Z b) ∧ ROut w' (fun b => b ∈ bl' ∨ Z b ∨ m.X b) us F.res res [u] bl' := by
            cases hfl : F.res.flatR with
            | true => exact ⟨fun _ => True, fun _ _ _ _ _ => trivial, ROut.flat_any hfl hro⟩
            | false =>
              refine ⟨fun b => ∃ q x, nd q = some x ∧ q ∉ lentA F.ps xs ∧ blkOf (m.loc q) = some b, fun q x b h h' => ?_, hro⟩
              obtain ⟨h3, h4⟩ := behind_some h
              refine ⟨q, x, h3, h4.resolve_left (by rw [hfl]; simp), h'⟩
          obtain ⟨lc2, L⟩ := lay_sound F.res res 0 { st with nodes := behind F nd xs } s2 [x] j rn [u] bl' m.loc hsu hlay hro hnd'
          have hOL : ∀ b, (⟨w', s2.nodes, s2.used, lc2, m.X⟩ : Mem).O b → b ∈ bl' ∨ Z b ∨ m.X b := by
            rintro b (⟨q, x, hx, hb⟩ | hb)
            · cases hq : st.used q with
              | true =>
                have hx' : behind F nd xs q = some x := by have := L.node q hq; dsimp only at hx; rw [this] at hx; exact hx
                have := L.loc q hq
                dsimp only at hb; rw [this] at hb
                exact .inr (.inl (hZ q x b hx' hb))
              | false => exact .inl ((L.new q x hq hx).2.1 b hb)
            · exact .inr (.inr hb)
          have hTn : Turn m (⟨w', s2.nodes, s2.used, lc2, m.X⟩ : Mem) (· ∈ handed m F.ps xs) := by
            refine ⟨rfl, hO, hfr, fun q hq => L.used q (by show st.used q = true; rw [← hR.used]; exact hq), fun q hq => L.loc q (by show st.used q = true; rw [← hR.used]; exact hq), ?_, ?_⟩
            · intro q x hq hx
              have hq' : st.used q = true := by rw [← hR.used]; exact hq
              have hx' : nd q = some x := by have := L.node q hq'; dsimp only at hx; rw [this] at hx; exact hb1 q x hx
              refine ⟨hin q x (k1 q x hx'), fun b hb hbl => ?_⟩
              obtain ⟨q', x', h3, h4, h5⟩ := k3 b hbl
              have : q = q' := hR.ok.inj q q' x x' b (hin q x (k1 q x hx')) (hin q' x' h3) hb h5
              subst this; rw [h4] at hx'; cases hx'
            · intro q x hq hx b hb
              have hq' : st.used q = false := by rw [← hR.used]; exact hq
              rcases hbl' b ((L.new q x hq' hx).2.1 b hb) with h3 | h3
              · exact .inr h3
              · exact .inl h3
          have hR1 : Rel s2 a ⟨w', s2.nodes, s2.used, lc2, m.X⟩ w0 O0 n := by
            refine hTn.rel hR L.slo rfl rfl ?_ ?_
            · intro q x hq hx
              have hq' : st.used q = false := by rw [← hR.used]; exact hq
              obtain ⟨g1, g2, ty, e, l, xs, rfl, g4, g5⟩ := L.new q x hq' hx
              exact ⟨g1, xs, g4, g5.imp fun c x hc => hc.keep (Keep.less hOL)⟩
            · intro q q' x x' b hq hq' hx hx' hb hb'
              have e1 : st.used q = false := by rw [← hR.used]; exact hq
              have e2 : st.used q' = false := by rw [← hR.used]; exact hq'
              exact L.inj q q' x x' b e1 e2 hx hx' hb hb'
          have hrel := L.rel ⟨w', s2.nodes, s2.used, lc2, m.X⟩ rfl hOL fun q hq => ⟨hq, rfl⟩
          simp only [STup] at hrel
          obtain ⟨u2, us2, e1, e2, _⟩ := hrel
          cases e1
          have hR2 : Rel (s2.ren rn) a ⟨w', s2.nodes, s2.used, lc2, m.X⟩ w0 O0 n := by
            have hno : (s2.ren rn).nodes = s2.nodes ∧ (s2.ren rn).used = s2.used := by cases rn <;> exact ⟨rfl, rfl⟩
            refine ⟨by rw [hno.1], by rw [hno.2], hR1.ok, fun t => ?_, hR1.defers, hR1.size, hR1.fixed⟩
            have hst : s2.slots t = st.slots t := by rw [L.slo]
            refine ren_sound (m := m) (hR1.slot t) (by rw [hst]; exact hR.slot t) fun p hp => ?_
            obtain ⟨g0, g1, g2, i, g3, g4, ty, e, l, g5⟩ := L.ren p hp
            refine ⟨g1, g2, ?_, ty, e, l, by rw [hR.nodes]; exact g5⟩
            obtain ⟨u3, hu3, hs3⟩ := STup_get hs g3
            rw [g4] at hu3
            obtain rfl := Option.some.inj hu3
            simp only [SRel] at hs3
            exact (hs3.2.2 ty e l (by rw [hR.nodes]; exact g5)).symm
          refine hn _ _ (hR2.put o.dst hd e2) hfr ?_
          rintro b ⟨q, ty, e, l, hx, hb⟩
          dsimp only at hx hb
          cases hq : st.used q with
          | true =>
            have hx' : nd q = some (.row ty e l) := by have := L.node q hq; rw [this] at hx; exact hb1 q _ hx
            have := L.loc q hq
            rw [this] at hb
            exact .inl ⟨q, ty, e, l, hin q _ (k1 q _ hx'), hb⟩
          | false =>
            rcases hbl' b ((L.new q _ hq hx).2.1 b hb) with h3 | h3
            · exact .inr h3
            · exact .inl (handed_row F.ps xs st.nodes nd hin hnd b h3)
        · cases h2
      · cases h
    · cases h
  · cases h
theorem closC_sound : ∀ {c : Kind} {v : c.T} {l : List Slot} {caps : List Value}, closC c v = some l → Cells m.w m.O c caps v → STup m l caps
  | .unit, v, l, caps, h, hc => by simp only [closC, Option.some.injEq] at h; subst h; simp only [STup]; exact hc
  | .pair x y, v, l, caps, h, hc => by
    simp only [closC] at h
    split at h
    · rename_i l' hl
      cases hb : (Nat.beq (width x) 1 && !aggB x) with
      | false => rw [hb] at h; cases h
      | true =>
        rw [hb, cond_true] at h
        cases h
        simp only [Bool.and_eq_true, Bool.not_eq_true'] at hb
        have hw : width x = 1 := Nat.eq_of_beq_eq_true hb.1
        obtain ⟨c1, c2, rfl, h1, h2⟩ := hc
        have hlen := h1.length
        rw [hw] at hlen
        obtain ⟨u, rfl⟩ := List.length_eq_one_iff.1 hlen
        simp only [STup]
        refine ⟨u, c2, rfl, SRel.valI ?_, closC_sound hl h2⟩
        unfold Reg
        rw [if_neg (by simp [hb.2])]
        exact ⟨h1.one u (by simp), h1⟩
    · cases h
  | .int _, v, l, caps, h, hc | .bool, v, l, caps, h, hc | .str, v, l, caps, h, hc | .struct _, v, l, caps, h, hc | .slice _, v, l, caps, h, hc | .arr _ _, v, l, caps, h, hc | .clo _ _, v, l, caps, h, hc | .ref _, v, l, caps, h, hc => by simp [closC] at h
theorem hard_call (hF : FnsOK P G cx) (hG : ∀ w', Frame0 w0 O0 w' → G w') (hR : Rel st a m w0 O0 n) (hd : ∀ t, o.dst = some t → t < n ∧ O0.fx t = none) {x : Operand} {args : Array Operand} {ts : Array TypeId}
    (ho : o.op = .call { callee := .value x, args := args, argTypes := ts }) (h : hardC cx st o K = some r) : ∃ st', K st' = some r ∧ ∃ Z, HOpR P o a m st' w0 O0 n Z ∧ (growOp cx o.op = true → ∀ b, ¬ Z b) ∧ ∀ b, Z b → RowB m b := by
  simp only [hardC, ho] at h
  have hx := evalS_sound hR x
  split at h
  · rename_i f ex hcal
    unfold calleeS at hcal
    split at hcal
    · rename_i g c v he
      split at hcal
      · rename_i l hl
        simp only [Option.some.injEq, Prod.mk.injEq] at hcal
        obtain ⟨rfl, rfl⟩ := hcal
        rw [he] at hx
        simp only [SRel] at hx
        unfold Reg at hx
        rw [if_neg (by simp [aggB])] at hx
        obtain ⟨caps, h1, h2⟩ := hx.2
        have hu : a.eval x = .func (.func g) #[] caps.toArray := by simpa using h1
        have hfn : growOp cx o.op = true → growFn cx g = true := by
          intro hgr
          rw [ho] at hgr
          cases x with
          | func f' => simp only [evalS, Slot.val.injEq, Kind.clo.injEq] at he; rw [← he.1.1]; exact hgr
          | _ => cases hgr
        have hmain := callH_sound hF hG hR hd (STup_append (STup_eval hR args.toList) (closC_sound hl h2)) (fun hcb => ?_) h
        · obtain ⟨st', q1, Z, q2, q3⟩ := hmain
          exact ⟨st', q1, Z, q2, fun hgr => q3.1 (hfn hgr), q3.2⟩
        have hc := run_callFunc hcb (args.map a.eval ++ caps.toArray) m.w
        have he2 : (List.map a.eval args.toList ++ caps).toArray = args.map a.eval ++ caps.toArray := by apply Array.toList_inj.1; simp
        rw [he2]
        simp [execOp, ho, resolve, hu, Deferred.ofValue, invoke, hc]
      · cases hcal
    · cases hcal
  · cases h
end
end Go.Fm
