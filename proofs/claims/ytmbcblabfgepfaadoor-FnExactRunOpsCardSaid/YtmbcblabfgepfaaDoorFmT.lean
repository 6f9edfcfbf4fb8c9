/- The functional machine: calls. -/
import Derived.Test.YtmbcblabfgepfaaDoorFmS
set_option autoImplicit true
set_option linter.unusedVariables false
set_option linter.unusedSimpArgs false
set_option linter.unusedSectionVars false
namespace Go.Fm
variable [Strict]

section
variable {P : Program} {cx : Ctx} {st st' : St} {a : Act} {m m' : Mem} {w0 : World} {O0 : OX} {n : Nat} {R : Type} {r : R} {G : World → Prop} {o : Oper} {K : St → Option R}

theorem fieldsT_all {f : Slot → (k : Kind) → Option k.T} : ∀ {l : List Slot} {b : Kind} {v : b.T}, fieldsT f b l = some v → ∀ x ∈ l, ∃ k v, f x k = some v
  | [], b, v, h, x, hx => by cases hx
  | y :: l, b, v, h, x, hx => by
    cases b with
    | pair a b =>
      simp only [fieldsT] at h
      cases h1 : f y a with
      | none => simp [h1] at h
      | some p =>
        cases h2 : fieldsT f b l with
        | none => simp [h1, h2] at h
        | some q =>
          rcases List.mem_cons.1 hx with rfl | hx
          · exact ⟨a, p, h1⟩
          · exact fieldsT_all h2 x hx
    | unit =>
      cases l with
      | nil => simp [fieldsT] at h; have := List.mem_singleton.1 hx; subst this; exact ⟨.unit, v, h⟩
      | cons z l => simp [fieldsT] at h
    | _ =>
      cases l with
      | nil => have := List.mem_singleton.1 hx; subst this; exact ⟨_, v, by simpa [fieldsT] using h⟩
      | cons z l => simp [fieldsT] at h
theorem cond_tt {α : Type} {x : Bool} {a : Option α} {v : α} (h : cond x a none = some v) : x = true := by
  cases x with
  | false => cases h
  | true => rfl
theorem asVal_alive {nodes : Nat → Option Node} : ∀ (k : Nat) (x : Slot) (kd : Kind) (v : kd.T), asVal nodes k x kd = some v → ∀ q ∈ roots k x, ∃ y, nodes q = some y
  | 0, _, _, _, h => by simp [asVal] at h
  | k + 1, x, kd, v, h => by
    cases x
    case box b path =>
      intro q' hq'
      cases path with
      | cons f p => simp [roots] at hq'
      | nil =>
        have := List.mem_singleton.1 hq'; subst this
        cases kd <;> simp only [asVal] at h <;> (try (cases h; done))
        cases hn : nodes q' with
        | none => simp [hn] at h
        | some y => exact ⟨y, rfl⟩
    all_goals simp only [roots]
    all_goals (try (intro q hq; cases hq; done))
    · rename_i q
      intro q' hq'
      have := List.mem_singleton.1 hq'; subst this
      simp only [asVal] at h
      cases hn : nodes q' with
      | none => simp [hn] at h
      | some y => exact ⟨y, rfl⟩
    · rename_i q lo hi
      intro q' hq'
      have := List.mem_singleton.1 hq'; subst this
      simp only [asVal] at h
      cases hn : nodes q' with
      | none => simp [hn] at h
      | some y => exact ⟨y, rfl⟩
    · rename_i q
      intro q' hq'
      have := List.mem_singleton.1 hq'; subst this
      simp only [asVal] at h
      cases hn : nodes q' with
      | none => simp [hn] at h
      | some y => exact ⟨y, rfl⟩
    · rename_i q
      intro q' hq'
      have := List.mem_singleton.1 hq'; subst this
      simp only [asVal] at h
      cases hn : nodes q' with
      | none => simp [hn] at h
      | some y => exact ⟨y, rfl⟩
    · rename_i q i f j
      intro q' hq'
      have := List.mem_singleton.1 hq'; subst this
      simp only [asVal] at h
      cases hn : nodes q' with
      | none => simp [hn] at h
      | some y => exact ⟨y, rfl⟩
    · rename_i k' l
      intro q hq
      obtain ⟨y, hy, hq⟩ := List.mem_flatMap.1 hq
      cases kd <;> simp only [asVal] at h <;> (try (cases h; done))
      split at h
      · obtain ⟨k2, v2, h2⟩ := fieldsT_all h y hy
        exact asVal_alive k y k2 v2 h2 q hq
      · cases h
    · rename_i b rs
      intro q hq
      cases kd <;> simp only [asVal] at h <;> (try (cases h; done))
      · split at h
        · rename_i hb
          split at h
          · have hck := cond_tt h
            simp only [Bool.and_eq_true] at hck
            rcases List.mem_cons.1 hq with rfl | hq
            · exact ⟨_, hb⟩
            · exact Option.isSome_iff_exists.1 (List.all_eq_true.1 hck.1 q hq)
          · cases h
        · cases h
      · split at h
        · rename_i hb
          split at h
          · have hck := cond_tt h
            simp only [Bool.and_eq_true] at hck
            rcases List.mem_cons.1 hq with rfl | hq
            · exact ⟨_, hb⟩
            · exact Option.isSome_iff_exists.1 (List.all_eq_true.1 hck.2.1 q hq)
          · cases h
        · cases h
    · rename_i g l rs
      intro q hq
      cases kd <;> simp only [asVal] at h <;> (try (cases h; done))
      split at h
      · cases hall : rs.all (fun r => (nodes r).isSome) with
        | false => rw [hall] at h; cases h
        | true =>
        rw [hall, cond_true] at h
        rcases List.mem_append.1 hq with hq | hq
        · exact Option.isSome_iff_exists.1 (List.all_eq_true.1 hall q hq)
        · obtain ⟨y, hy, hq⟩ := List.mem_flatMap.1 hq
          obtain ⟨k2, v2, h2⟩ := fieldsT_all h y hy
          unfold capV at h2
          split at h2
          · cases k with
            | zero => simp [roots] at hq
            | succ k =>
              have := List.mem_singleton.1 hq; subst this
              split at h2
              · rename_i hn; exact ⟨_, hn⟩
              · cases h2
          · cases k <;> simp [roots] at hq
          · cases h2
      · cases h

/-- the blocks that are handed away -/
def handed (m : Mem) : List PS → List Slot → List Nat
  | .val _ :: ps, _ :: xs => handed m ps xs
  | .own _ _ :: ps, .root q :: xs => (blkOf (m.loc q)).toList ++ handed m ps xs
  | .own _ _ :: ps, _ :: xs => handed m ps xs
  | .deep _ _ _ :: ps, .droot q :: xs => blks (m.loc q) ++ handed m ps xs
  | _, _ => []
theorem takeOwn_sound (hok : Ok m w0 O0) : ∀ (ps : List PS) (xs : List Slot) (cur nd : Nat → Option Node), (∀ q x, cur q = some x → m.nodes q = some x) → takeOwn cur ps xs = some nd →
    (∀ q x, nd q = some x → cur q = some x) ∧ (handed m ps xs).Nodup ∧ ∀ b ∈ handed m ps xs, ∃ q x, cur q = some x ∧ nd q = none ∧ Blk (m.loc q) b
  | [], [], cur, nd, hc, h => by simp [takeOwn] at h; subst h; exact ⟨fun _ _ h => h, by simp [handed], by simp [handed]⟩
  | [], _ :: _, cur, nd, hc, h => by simp [takeOwn] at h
  | .val _ :: ps, [], cur, nd, hc, h => by simp [takeOwn] at h
  | .val _ :: ps, x :: xs, cur, nd, hc, h => by simp only [takeOwn] at h; simpa only [handed] using takeOwn_sound hok ps xs cur nd hc h
  | .own _ _ :: ps, [], cur, nd, hc, h => by simp [takeOwn] at h
  | .own _ _ :: ps, x :: xs, cur, nd, hc, h => by
    cases x <;> simp only [takeOwn] at h <;> (try (cases h; done))
    · simpa only [handed] using takeOwn_sound hok ps xs cur nd hc h
    · rename_i q
      split at h
      · rename_i ty e l hq
        have hc' : ∀ q' x, upd cur q none q' = some x → m.nodes q' = some x ∧ q' ≠ q ∧ cur q' = some x := fun q' x h => by
          by_cases hqq : q' = q
          · subst hqq; simp [upd_same] at h
          · rw [upd_other _ _ hqq] at h; exact ⟨hc q' x h, hqq, h⟩
        obtain ⟨h1, h2, h3⟩ := takeOwn_sound hok ps xs (upd cur q none) nd (fun q' x h => (hc' q' x h).1) h
        refine ⟨fun q' x hx => (hc' q' x (h1 q' x hx)).2.2, ?_, ?_⟩
        · simp only [handed]
          refine List.nodup_append.2 ⟨by cases blkOf (m.loc q) <;> simp, h2, ?_⟩
          intro b hb b' hb' hbb
          subst hbb
          obtain ⟨q', x', h4, _, h5⟩ := h3 b hb'
          obtain ⟨h6, h7, _⟩ := hc' q' x' h4
          have hrow : NodeRel m q (.row ty e l) := hok.node q _ (hc q _ hq)
          obtain ⟨ys, hown, _⟩ := hrow
          exact h7 (hok.inj q' q x' _ b h6 (hc q _ hq) h5 ((own_blk hown).2 (by simpa using hb)))
        · intro b hb
          simp only [handed] at hb
          rcases List.mem_append.1 hb with hb | hb
          · have hrow : NodeRel m q (.row ty e l) := hok.node q _ (hc q _ hq)
            obtain ⟨ys, hown, _⟩ := hrow
            refine ⟨q, _, hq, ?_, (own_blk hown).2 (by simpa using hb)⟩
            cases hn : nd q with
            | none => rfl
            | some x => have := hc' q x (h1 q x hn); exact absurd rfl this.2.1
          · obtain ⟨q', x', h4, h5, h6⟩ := h3 b hb
            exact ⟨q', x', (hc' q' x' h4).2.2, h5, h6⟩
      · cases h
  | .deep _ _ _ :: ps, [], cur, nd, hc, h => by simp [takeOwn] at h
  | .deep _ _ _ :: ps, x :: xs, cur, nd, hc, h => by
    cases x <;> simp only [takeOwn] at h <;> (try (cases h; done))
    · rename_i q
      split at h
      · rename_i ty e ts l hq
        have hc' : ∀ q' x, upd cur q none q' = some x → m.nodes q' = some x ∧ q' ≠ q ∧ cur q' = some x := fun q' x h => by
          by_cases hqq : q' = q
          · subst hqq; simp [upd_same] at h
          · rw [upd_other _ _ hqq] at h; exact ⟨hc q' x h, hqq, h⟩
        obtain ⟨h1, h2, h3⟩ := takeOwn_sound hok ps xs (upd cur q none) nd (fun q' x h => (hc' q' x h).1) h
        have hD : NodeRel m q (.deep ty e ts l) := hok.node q _ (hc q _ hq)
        refine ⟨fun q' x hx => (hc' q' x (h1 q' x hx)).2.2, ?_, ?_⟩
        · simp only [handed]
          refine List.nodup_append.2 ⟨DeepR.nodup hD, h2, ?_⟩
          intro b hb b' hb' hbb
          subst hbb
          obtain ⟨q', x', h4, _, h5⟩ := h3 b hb'
          obtain ⟨h6, h7, _⟩ := hc' q' x' h4
          exact h7 (hok.inj q' q x' _ b h6 (hc q _ hq) h5 (mem_blks.1 hb))
        · intro b hb
          simp only [handed] at hb
          rcases List.mem_append.1 hb with hb | hb
          · refine ⟨q, _, hq, ?_, mem_blks.1 hb⟩
            cases hn : nd q with
            | none => rfl
            | some x => have := hc' q x (h1 q x hn); exact absurd rfl this.2.1
          · obtain ⟨q', x', h4, h5, h6⟩ := h3 b hb
            exact ⟨q', x', (hc' q' x' h4).2.2, h5, h6⟩
      · cases h

theorem argsT_sound (hR : Rel st a m w0 O0 n) {nd : Nat → Option Node} {BL : List Nat} (hsub : ∀ q x, nd q = some x → st.nodes q = some x) (hBL : ∀ b ∈ BL, ∃ q x, st.nodes q = some x ∧ nd q = none ∧ Blk (m.loc q) b) {Y : Nat → Prop} (hY : ∀ b, Y b → m.O b) :
    ∀ (ps : List PS) (xs : List Slot) (us : List Value) (v : ArgsT ps), STup m xs us → (∀ q ∈ lentA ps xs, ∀ b, Blk (m.loc q) b → ¬ Y b) → argsT st.nodes nd ps xs = some v → ArgsOK m.w (fun b => b ∈ BL ∨ Y b) ps v us (handed m ps xs)
  | [], [], us, v, hs, hl, h => by simp only [STup] at hs; exact ⟨hs, rfl⟩
  | [], _ :: _, us, v, hs, hl, h => by simp [argsT] at h
  | .val k :: ps, [], us, v, hs, hl, h => by simp [argsT] at h
  | .val k :: ps, x :: xs, us, v, hs, hl, h => by
    simp only [argsT] at h
    cases hx : asVal nd 8 x k with
    | none => simp [hx] at h
    | some y =>
      cases hr : argsT st.nodes nd ps xs with
      | none => simp [hx, hr] at h
      | some ys =>
        simp [hx, hr] at h; subst h
        simp only [STup] at hs
        obtain ⟨u, us', rfl, h1, h2⟩ := hs
        simp only [lentA, List.mem_append] at hl
        refine ⟨u, us', rfl, ?_, argsT_sound hR hsub hBL hY ps xs us' ys h2 (fun q hq => hl q (.inr hq)) hr⟩
        have hin : ∀ q x, st.nodes q = some x → m.nodes q = some x := fun q x h => by rw [hR.nodes]; exact h
        refine asVal_sound (m := m) (nodes := nd) (fun q x h => hin q x (hsub q x h)) hR.ok.node ?_ 8 x k y u hx h1 ?_
        · rintro b (hb | hb)
          · obtain ⟨q, x, h3, _, h4⟩ := hBL b hb
            exact .inl ⟨q, x, hin q x h3, h4⟩
          · exact hY b hb
        · rintro q hq b hb (hbl | hbl)
          rotate_left
          · exact hl q (.inl hq) b hb hbl
          obtain ⟨q', x', h3, h4, h5⟩ := hBL b hbl
          obtain ⟨z, hz⟩ := asVal_alive 8 x k y hx q hq
          have : q = q' := hR.ok.inj q q' z x' b (hin q z (hsub q z hz)) (hin q' x' h3) hb h5
          subst this; rw [h4] at hz; cases hz
  | .own ty e :: ps, [], us, v, hs, hl, h => by simp [argsT] at h
  | .own ty e :: ps, x :: xs, us, v, hs, hl, h => by
    simp only [STup] at hs
    obtain ⟨u, us', rfl, h1, h2⟩ := hs
    have hin : ∀ q x, st.nodes q = some x → m.nodes q = some x := fun q x h => by rw [hR.nodes]; exact h
    have hO : ∀ b, b ∈ BL ∨ Y b → m.O b := by
      rintro b (hb | hb)
      · obtain ⟨q, x, h3, _, h4⟩ := hBL b hb
        exact .inl ⟨q, x, hin q x h3, h4⟩
      · exact hY b hb
    simp only [lentA] at hl
    cases x <;> simp only [argsT] at h <;> (try (cases h; done))
    · cases hr : argsT st.nodes nd ps xs with
      | none => simp [hr] at h
      | some ys =>
        simp [hr] at h; subst h
        simp only [SRel] at h1; subst h1
        refine ⟨_, us', [], handed m ps xs, rfl, by simp [handed, blkOf], World.ownsRow_nil _ _ _ _, rfl, argsT_sound hR hsub hBL hY ps xs us' ys h2 hl hr⟩
    · rename_i q
      split at h
      · rename_i ty' e' l hn
        split at h
        · rename_i hty
          split at h
          · rename_i l' hc
            cases hr : argsT st.nodes nd ps xs with
            | none => simp [hr] at h
            | some ys =>
              simp [hr] at h; subst h
              obtain ⟨hke, hl⟩ := cast?_some hc
              cases hke
              dsimp only at hl; subst hl
              simp only [SRel] at h1
              have h3 := h1.2.2 ty' e l (hin q _ hn)
              obtain ⟨ys', h4, h5⟩ := row_loc hR hn
              rw [← hty] at h4
              exact ⟨u, us', ys', handed m ps xs, rfl, by simp [handed, h3], by rw [h3]; exact h4, h5.imp fun c x hc => hc.keep (Keep.less hO), argsT_sound hR hsub hBL hY ps xs us' ys h2 hl hr⟩
          · cases h
        · cases h
      · cases h
  | .deep ty e ts :: ps, [], us, v, hs, hl, h => by simp [argsT] at h
  | .deep ty e ts :: ps, x :: xs, us, v, hs, hl, h => by
    simp only [STup] at hs
    obtain ⟨u, us', rfl, h1, h2⟩ := hs
    simp only [lentA] at hl
    cases x <;> simp only [argsT] at h <;> (try (cases h; done))
    · rename_i q
      split at h
      · rename_i ty' e' ts' l hn
        split at h
        · rename_i hty
          split at h
          · rename_i hts
            split at h
            · rename_i l' hc
              cases hr : argsT st.nodes nd ps xs with
              | none => simp [hr] at h
              | some ys =>
                simp [hr] at h; subst h
                obtain ⟨hke, hl'⟩ := cast?_some hc
                cases hke
                dsimp only at hl'; subst hl'; subst hty; subst hts
                simp only [SRel] at h1
                exact ⟨u, us', m.loc q, handed m ps xs, rfl, rfl, h1.2.1, (hR.deep hn).flat_any, argsT_sound hR hsub hBL hY ps xs us' ys h2 hl hr⟩
            · cases h
          · cases h
        · cases h
      · cases h

theorem lay_one {base : Nat} {before : Nat → Option Node} {xs : List Slot} {r : RS} {v : r.T} {j : Nat} {s s2 : St} {slots : List Slot} {j2 : Nat} {rn : List (Nat × Nat)} (hc : r.one = true) (h : layRes base before xs r v j s = some (slots, j2, s2, rn)) :
    ∃ x, slots = [x] ∧ fits r.kind x = true ∧ notPair r.kind ∧ r.kind ≠ .unit := by
  cases r with
  | val k =>
    simp only [layRes, Option.some.injEq, Prod.mk.injEq] at h
    refine ⟨_, h.1.symm, by simp [fits, RS.kind], ?_, ?_⟩ <;> cases k <;> simp [RS.one] at hc <;> simp [RS.kind, notPair]
  | own ty e =>
    simp only [layRes] at h
    split at h
    · simp only [Option.some.injEq, Prod.mk.injEq] at h
      exact ⟨_, h.1.symm, rfl, trivial, by simp [RS.kind]⟩
    · cases h
  | deep ty e ts =>
    simp only [layRes] at h
    split at h
    · simp only [Option.some.injEq, Prod.mk.injEq] at h
      exact ⟨_, h.1.symm, rfl, trivial, by simp [RS.kind]⟩
    · cases h
  | agg a =>
    simp only [layRes] at h
    cases hb : a.chain with
    | false => rw [hb, cond_false] at h; cases h
    | true =>
      rw [hb, cond_true] at h
      split at h
      · simp only [Option.some.injEq, Prod.mk.injEq] at h
        exact ⟨_, h.1.symm, by simp [fits, RS.kind], trivial, by simp [RS.kind]⟩
      · cases h
  | _ => simp [RS.one] at hc
theorem chain_unit : ∀ {r : RS}, r.chain = true → r.kind ≠ .unit
  | .pair a b, _ => by simp [RS.kind]
  | .val k, h => by cases k <;> simp [RS.chain, RS.one] at h <;> simp [RS.kind]
  | .own _ _, _ => by simp [RS.kind]
  | .deep _ _ _, _ => by simp [RS.kind]
  | .agg _, _ => by simp [RS.kind]
  | .tup _, h => by simp [RS.chain, RS.one] at h
  | .back _ _ _ _, h => by simp [RS.chain, RS.one] at h
  | .dback _ _ _ _ _, h => by simp [RS.chain, RS.one] at h
  | .nil, h => by simp [RS.chain, RS.one] at h
theorem lay_srels {w' : World} {O' : Nat → Prop} {base : Nat} {before : Nat → Option Node} {xs : List Slot} {args : List Value} {m2 : Mem} : ∀ (r : RS) (v : r.T) (j : Nat) (s s2 : St) (slots : List Slot) (j2 : Nat) (rn : List (Nat × Nat)) (us : List Value) (bl : List Nat), r.chain = true →
    layRes base before xs r v j s = some (slots, j2, s2, rn) → ROut w' O' args r v us bl → STup m2 slots us → SRels m2 r.kind slots us := by
  intro r
  induction r with
  | pair ra rb iha ihb =>
    intro v j s s2 slots j2 rn us bl hc h ho hs
    simp only [RS.chain, Bool.and_eq_true] at hc
    simp only [layRes] at h
    split at h
    · rename_i x j1 s1 rn1 h1
      split at h
      · rename_i y j3 s3 rn2 h2
        simp only [Option.some.injEq, Prod.mk.injEq] at h
        obtain ⟨rfl, _, rfl, rfl⟩ := h
        obtain ⟨u, us', b1, b2, rfl, rfl, ho1, ho2⟩ := ho
        obtain ⟨x0, rfl, f1, f2, f3⟩ := lay_one hc.1 h1
        simp only [List.singleton_append, STup] at hs
        obtain ⟨u2, us2, e1, g1, g2⟩ := hs
        cases e1
        have hb := ihb v.2 j1 s1 s3 y j3 rn2 us' b2 hc.2 h2 ho2 g2
        simp only [List.singleton_append, SRels, RS.kind]
        refine ⟨u, us', rfl, g1, .inl ⟨_, _, rfl, fun hy => ?_, fits_form f1 g1, fitsD_of f1, hb⟩⟩
        subst hy
        simp only [SRels] at hb
        exact chain_unit hc.2 hb.1
      · cases h
    · cases h
  | _ =>
    intro v j s s2 slots j2 rn us bl hc h ho hs
    obtain ⟨x0, rfl, f1, f2, f3⟩ := lay_one (by simpa [RS.chain] using hc) h
    simp only [STup] at hs
    obtain ⟨u2, us2, rfl, g1, rfl⟩ := hs
    simp only [SRels]
    exact ⟨u2, [], rfl, g1, .inr ⟨f2, f3, by simp, by simp, fits_form f1 g1, fitsD_of f1⟩⟩
/-- what a laid result is -/
structure Laid (w' : World) (O' : Nat → Prop) (s s2 : St) (lc lc2 : Nat → Value) (slots : List Slot) (us : List Value) (bl : List Nat) (before : Nat → Option Node) (xs : List Slot) (args : List Value) (rn : List (Nat × Nat)) : Prop where
  loc : ∀ q, s.used q = true → lc2 q = lc q
  used : ∀ q, s.used q = true → s2.used q = true
  node : ∀ q, s.used q = true → s2.nodes q = s.nodes q
  slo : s2.slots = s.slots
  new : ∀ q x, s.used q = false → s2.nodes q = some x → s2.used q = true ∧ (∀ b, Blk (lc2 q) b → b ∈ bl) ∧
    isRow x = true ∧ NodeW w' O' (lc2 q) x
  inj : ∀ q q' x x' b, s.used q = false → s.used q' = false → s2.nodes q = some x → s2.nodes q' = some x' → Blk (lc2 q) b → Blk (lc2 q') b → q = q'
  ren : ∀ p ∈ rn, s.used p.2 = false ∧ s2.used p.2 = true ∧ (((∃ B n c, lc2 p.2 = .slice B n c) ∧ ∃ i : Nat, xs[i]? = some (Slot.root p.1) ∧ args[i]? = some (lc2 p.2) ∧ ∃ ty e l, before p.1 = some (Node.row ty e l)) ∨
    ((∃ ty e ts l, s2.nodes p.2 = some (Node.deep ty e ts l)) ∧ ∃ (i : Nat) (u : Value), xs[i]? = some (Slot.droot p.1) ∧ args[i]? = some u ∧ hdr (lc2 p.2) = some u))
  rel : ∀ m2 : Mem, m2.w = w' → (∀ b, m2.O b → O' b) → (∀ q, s2.used q = true → m2.used q = true ∧ m2.loc q = lc2 q) → STup m2 slots us
theorem lay_sound {w' : World} {O' : Nat → Prop} {base : Nat} {before : Nat → Option Node} {xs : List Slot} {args : List Value} : ∀ (r : RS) (v : r.T) (j : Nat) (s s2 : St) (slots : List Slot) (j2 : Nat) (rn : List (Nat × Nat)) (us : List Value) (bl : List Nat) (lc : Nat → Value), (∀ q x, s.nodes q = some x → s.used q = true) →
    layRes base before xs r v j s = some (slots, j2, s2, rn) → ROut w' O' args r v us bl → bl.Nodup → ∃ lc2, Laid w' O' s s2 lc lc2 slots us bl before xs args rn
  | .val k, v, j, s, s2, slots, j2, rn, us, bl, lc, hs, h, ho, hnd => by
    simp only [layRes, Option.some.injEq, Prod.mk.injEq] at h
    obtain ⟨rfl, _, rfl, rfl⟩ := h
    obtain ⟨h1, u, rfl, h3⟩ := ho
    refine ⟨lc, fun _ _ => rfl, fun _ h => h, fun _ _ => rfl, rfl, fun q x hq hx => ?_, fun q q' x x' b hq hq' hx => ?_, by simp, fun m2 hw hO _ => ?_⟩
    · have := hs q x hx; rw [hq] at this; cases this
    · have := hs q x hx; rw [hq] at this; cases this
    · simp only [STup]
      exact ⟨u, [], rfl, SRel.valI (by rw [hw]; exact h3.keep (Keep.less hO)), rfl⟩
  | .own ty e, l, j, s, s2, slots, j2, rn, us, bl, lc, hs, h, ho, hnd => by
    simp only [layRes] at h
    split at h
    · rename_i s' hmk
      simp only [Option.some.injEq, Prod.mk.injEq] at h
      obtain ⟨rfl, _, rfl, rfl⟩ := h
      obtain ⟨u, ys, rfl, hbl, h1, h2⟩ := ho
      obtain ⟨e1, e2, e3, e4⟩ := make_some hmk
      have hne : ∀ q, s.used q = true → q ≠ Nat.add base j := fun q hq e => by rw [e, e1] at hq; cases hq
      have hnew : ∀ q x, s.used q = false → s'.nodes q = some x → q = Nat.add base j ∧ x = .row ty e l := fun q x hq hx => by
        rw [e2] at hx
        by_cases hqi : q = Nat.add base j
        · subst hqi; simp only [upd_same] at hx; cases hx; exact ⟨rfl, rfl⟩
        · rw [upd_other _ _ hqi] at hx
          have := hs q x hx; rw [hq] at this; cases this
      refine ⟨upd lc (Nat.add base j) u, fun q hq => upd_other _ _ (hne q hq), fun q hq => by rw [e3, upd_other _ _ (hne q hq)]; exact hq, fun q hq => by rw [e2, upd_other _ _ (hne q hq)], e4, ?_, ?_, by simp, ?_⟩
      · intro q x hq hx
        obtain ⟨rfl, rfl⟩ := hnew q x hq hx
        refine ⟨by rw [e3, upd_same], fun b hb => by rw [upd_same] at hb; rw [hbl, (own_blk h1).1 hb]; simp, rfl, ys, by rw [upd_same]; exact h1, h2⟩
      · intro q q' x x' b hq hq' hx hx' _ _
        rw [(hnew q x hq hx).1, (hnew q' x' hq' hx').1]
      · intro m2 hw hO hm
        simp only [STup]
        refine ⟨u, [], rfl, ?_, rfl⟩
        have := hm (Nat.add base j) (by rw [e3, upd_same])
        rw [upd_same] at this
        obtain ⟨B, c, h5, _⟩ := row_val h1
        simp only [SRel]
        exact ⟨this.1, ⟨B, _, c, h5⟩, fun _ _ _ _ => this.2.symm⟩
    · cases h
  | .pair ra rb, v, j, s, s2, slots, j2, rn, us, bl, lc, hs, h, ho, hnd => by
    simp only [layRes] at h
    split at h
    · rename_i x j1 s1 rn1 h1
      split at h
      · rename_i y j3 s3 rn2 h2
        simp only [Option.some.injEq, Prod.mk.injEq] at h
        obtain ⟨rfl, _, rfl, rfl⟩ := h
        obtain ⟨u, us', b1, b2, rfl, rfl, ho1, ho2⟩ := ho
        obtain ⟨hn1, hn2, hn3⟩ := List.nodup_append.1 hnd
        obtain ⟨lc1, L1⟩ := lay_sound ra v.1 j s s1 x j1 rn1 [u] b1 lc hs h1 ho1 hn1
        have hs1 : ∀ q x, s1.nodes q = some x → s1.used q = true := fun q x hx => by
          cases hq : s.used q with
          | true => exact L1.used q hq
          | false => exact (L1.new q x hq hx).1
        obtain ⟨lc2, L2⟩ := lay_sound rb v.2 j1 s1 s3 y j3 rn2 us' b2 lc1 hs1 h2 ho2 hn2
        refine ⟨lc2, fun q hq => (L2.loc q (L1.used q hq)).trans (L1.loc q hq), fun q hq => L2.used q (L1.used q hq), fun q hq => (L2.node q (L1.used q hq)).trans (L1.node q hq), L2.slo.trans L1.slo, ?_, ?_, ?_, ?_⟩
        · intro q z hq hz
          cases hq1 : s1.used q with
          | true =>
            rw [L2.node q hq1] at hz
            obtain ⟨g1, g2, g3⟩ := L1.new q z hq hz
            rw [L2.loc q hq1]
            exact ⟨L2.used q hq1, fun b hb => List.mem_append.2 (.inl (g2 b hb)), g3⟩
          | false =>
            obtain ⟨g1, g2, g3⟩ := L2.new q z hq1 hz
            exact ⟨g1, fun b hb => List.mem_append.2 (.inr (g2 b hb)), g3⟩
        · intro q q' z z' b hq hq' hz hz' hb hb'
          cases hq1 : s1.used q with
          | true =>
            rw [L2.node q hq1] at hz
            rw [L2.loc q hq1] at hb
            cases hq2 : s1.used q' with
            | true =>
              rw [L2.node q' hq2] at hz'
              rw [L2.loc q' hq2] at hb'
              exact L1.inj q q' z z' b hq hq' hz hz' hb hb'
            | false =>
              exact absurd rfl (hn3 b ((L1.new q z hq hz).2.1 b hb) b ((L2.new q' z' hq2 hz').2.1 b hb'))
          | false =>
            cases hq2 : s1.used q' with
            | true =>
              rw [L2.node q' hq2] at hz'
              rw [L2.loc q' hq2] at hb'
              exact absurd rfl (hn3 b ((L1.new q' z' hq' hz').2.1 b hb') b ((L2.new q z hq1 hz).2.1 b hb))
            | false => exact L2.inj q q' z z' b hq1 hq2 hz hz' hb hb'
        · intro p hp
          rcases List.mem_append.1 hp with hp | hp
          · obtain ⟨g0, g1, g2⟩ := L1.ren p hp
            refine ⟨g0, L2.used _ g1, ?_⟩
            rw [L2.loc _ g1, L2.node _ g1]
            exact g2
          · obtain ⟨g0, g1, g2⟩ := L2.ren p hp
            refine ⟨?_, g1, g2⟩
            cases hq : s.used p.2 with
            | false => rfl
            | true => rw [L1.used _ hq] at g0; cases g0
        · intro m2 hw hO hm
          have t1 := L1.rel m2 hw hO fun q hq => by
            have := hm q (L2.used q hq)
            rw [L2.loc q hq] at this
            exact this
          have t2 := L2.rel m2 hw hO hm
          simpa using STup_append t1 t2
      · cases h
    · cases h
  | .agg ra, v, j, s, s2, slots, j2, rn, us, bl, lc, hs, h, ho, hnd => by
    simp only [layRes] at h
    cases hch : ra.chain with
    | false => rw [hch, cond_false] at h; cases h
    | true =>
    rw [hch, cond_true] at h
    split at h
    · rename_i x j1 s1 rn1 h1
      simp only [Option.some.injEq, Prod.mk.injEq] at h
      obtain ⟨rfl, _, rfl, rfl⟩ := h
      obtain ⟨us', rfl, ho1⟩ := ho
      obtain ⟨lc1, L1⟩ := lay_sound ra v j s s1 x j1 rn1 us' bl lc hs h1 ho1 hnd
      refine ⟨lc1, L1.loc, L1.used, L1.node, L1.slo, L1.new, L1.inj, L1.ren, fun m2 hw hO hm => ?_⟩
      have := L1.rel m2 hw hO hm
      simp only [STup]
      refine ⟨_, [], rfl, ?_, rfl⟩
      simp only [SRel]
      exact ⟨ra.kind, us', rfl, rfl, lay_srels ra v j s s1 x j1 rn1 us' bl hch h1 ho1 this⟩
    · cases h
  | .deep ty e ts, l, j, s, s2, slots, j2, rn, us, bl, lc, hs, h, ho, hnd => by
    simp only [layRes] at h
    split at h
    · rename_i s' hmk
      simp only [Option.some.injEq, Prod.mk.injEq] at h
      obtain ⟨rfl, _, rfl, rfl⟩ := h
      obtain ⟨u, d, rfl, hbl, h1, h2⟩ := ho
      obtain ⟨e1, e2, e3, e4⟩ := make_some hmk
      have hne : ∀ q, s.used q = true → q ≠ Nat.add base j := fun q hq e => by rw [e, e1] at hq; cases hq
      have hnew : ∀ q x, s.used q = false → s'.nodes q = some x → q = Nat.add base j ∧ x = .deep ty e ts l := fun q x hq hx => by
        rw [e2] at hx
        by_cases hqi : q = Nat.add base j
        · subst hqi; simp only [upd_same] at hx; cases hx; exact ⟨rfl, rfl⟩
        · rw [upd_other _ _ hqi] at hx
          have := hs q x hx; rw [hq] at this; cases this
      refine ⟨upd lc (Nat.add base j) d, fun q hq => upd_other _ _ (hne q hq), fun q hq => by rw [e3, upd_other _ _ (hne q hq)]; exact hq, fun q hq => by rw [e2, upd_other _ _ (hne q hq)], e4, ?_, ?_, by simp, ?_⟩
      · intro q x hq hx
        obtain ⟨rfl, rfl⟩ := hnew q x hq hx
        exact ⟨by rw [e3, upd_same], fun b hb => by rw [upd_same] at hb; rw [hbl]; exact mem_blks.2 hb, rfl, by rw [upd_same]; exact h2⟩
      · intro q q' x x' b hq hq' hx hx' _ _
        rw [(hnew q x hq hx).1, (hnew q' x' hq' hx').1]
      · intro m2 hw hO hm
        simp only [STup]
        refine ⟨u, [], rfl, ?_, rfl⟩
        have := hm (Nat.add base j) (by rw [e3, upd_same])
        rw [upd_same] at this
        obtain ⟨A, c, h5⟩ := h2.hdr
        simp only [SRel]
        exact ⟨this.1, by rw [this.2]; exact h1, A, _, c, by rw [h1] at h5; exact Option.some.inj h5⟩
    · cases h
  | .tup ra, v, j, s, s2, slots, j2, rn, us, bl, lc, hs, h, ho, hnd => by
    simp only [layRes] at h
    split at h
    · rename_i x j1 s1 rn1 h1
      simp only [Option.some.injEq, Prod.mk.injEq] at h
      obtain ⟨rfl, _, rfl, rfl⟩ := h
      obtain ⟨us', rfl, ho1⟩ := ho
      obtain ⟨lc1, L1⟩ := lay_sound ra v j s s1 x j1 rn1 us' bl lc hs h1 ho1 hnd
      refine ⟨lc1, L1.loc, L1.used, L1.node, L1.slo, L1.new, L1.inj, L1.ren, fun m2 hw hO hm => ?_⟩
      have := L1.rel m2 hw hO hm
      simp only [STup, SRel]
      exact ⟨_, [], rfl, ⟨us', rfl, this⟩, rfl⟩
    · cases h
  | .nil, v, j, s, s2, slots, j2, rn, us, bl, lc, hs, h, ho, hnd => by
    simp only [layRes, Option.some.injEq, Prod.mk.injEq] at h
    obtain ⟨rfl, _, rfl, rfl⟩ := h
    obtain ⟨rfl, rfl⟩ := ho
    refine ⟨lc, fun _ _ => rfl, fun _ h => h, fun _ _ => rfl, rfl, fun q x hq hx => ?_, fun q q' x x' b hq hq' hx => ?_, by simp, fun m2 hw hO _ => by simp [STup]⟩
    · have := hs q x hx; rw [hq] at this; cases this
    · have := hs q x hx; rw [hq] at this; cases this
  | .back i ty e ra, v, j, s, s2, slots, j2, rn, us, bl, lc, hs, h, ho, hnd => by
    obtain ⟨u, ys, b2, hu, hbl, h1, h2, ho2⟩ := ho
    simp only [layRes] at h
    split at h
    · rename_i q0 hq0
      split at h
      · rename_i ty0 e0 l0 hb0
        split at h
        · rename_i s' hmk
          split at h
          · rename_i x j' s'' rn' hla
            simp only [Option.some.injEq, Prod.mk.injEq] at h
            obtain ⟨rfl, _, rfl, rfl⟩ := h
            obtain ⟨e1, e2, e3, e4⟩ := make_some hmk
            subst hbl
            obtain ⟨hn1, hn2, hn3⟩ := List.nodup_append.1 hnd
            have hne : ∀ q, s.used q = true → q ≠ Nat.add base j := fun q hq e => by rw [e, e1] at hq; cases hq
            have hnew : ∀ q x, s.used q = false → s'.nodes q = some x → q = Nat.add base j ∧ x = .row ty e v.1 := fun q x hq hx => by
              rw [e2] at hx
              by_cases hqi : q = Nat.add base j
              · subst hqi; simp only [upd_same] at hx; cases hx; exact ⟨rfl, rfl⟩
              · rw [upd_other _ _ hqi] at hx
                have := hs q x hx; rw [hq] at this; cases this
            have hs1 : ∀ q x, s'.nodes q = some x → s'.used q = true := fun q x hx => by
              cases hq : s.used q with
              | true => rw [e3, upd_other _ _ (hne q hq)]; exact hq
              | false => rw [(hnew q x hq hx).1, e3, upd_same]
            obtain ⟨lc2, L2⟩ := lay_sound ra v.2 (Nat.succ j) s' s'' x j' rn' us b2 (upd lc (Nat.add base j) u) hs1 hla ho2 hn2
            have hu1 : s'.used (Nat.add base j) = true := by rw [e3, upd_same]
            have hk1 : ∀ q, s.used q = true → s'.used q = true := fun q hq => by rw [e3, upd_other _ _ (hne q hq)]; exact hq
            have hl1 : lc2 (Nat.add base j) = u := by rw [L2.loc _ hu1, upd_same]
            obtain ⟨B, c, h5, _⟩ := row_val h1
            refine ⟨lc2, fun q hq => (L2.loc q (hk1 q hq)).trans (upd_other _ _ (hne q hq)), fun q hq => L2.used q (hk1 q hq), fun q hq => (L2.node q (hk1 q hq)).trans (by rw [e2, upd_other _ _ (hne q hq)]), L2.slo.trans e4, ?_, ?_, ?_, ?_⟩
            · intro q z hq hz
              cases hq1 : s'.used q with
              | true =>
                rw [L2.node q hq1] at hz
                obtain ⟨rfl, rfl⟩ := hnew q z hq hz
                refine ⟨L2.used _ hq1, fun b hb => List.mem_append.2 (.inl ?_), rfl, ys, by rw [hl1]; exact h1, h2⟩
                rw [hl1] at hb; rw [(own_blk h1).1 hb]; simp
              | false =>
                obtain ⟨g1, g2, g3⟩ := L2.new q z hq1 hz
                exact ⟨g1, fun b hb => List.mem_append.2 (.inr (g2 b hb)), g3⟩
            · intro q q' z z' b hq hq' hz hz' hb hb'
              cases hq1 : s'.used q with
              | true =>
                rw [L2.node q hq1] at hz
                obtain ⟨rfl, rfl⟩ := hnew q z hq hz
                rw [hl1] at hb
                cases hq2 : s'.used q' with
                | true =>
                  rw [L2.node q' hq2] at hz'
                  exact (hnew q' z' hq' hz').1.symm
                | false => exact absurd rfl (hn3 b (by rw [(own_blk h1).1 hb]; simp) b ((L2.new q' z' hq2 hz').2.1 b hb'))
              | false =>
                cases hq2 : s'.used q' with
                | true =>
                  rw [L2.node q' hq2] at hz'
                  obtain ⟨rfl, rfl⟩ := hnew q' z' hq' hz'
                  rw [hl1] at hb'
                  exact absurd rfl (hn3 b (by rw [(own_blk h1).1 hb']; simp) b ((L2.new q z hq1 hz).2.1 b hb))
                | false => exact L2.inj q q' z z' b hq1 hq2 hz hz' hb hb'
            · intro p hp
              rcases List.mem_cons.1 hp with rfl | hp
              · exact ⟨e1, L2.used _ hu1, .inl ⟨by rw [hl1]; exact ⟨B, _, c, h5⟩, i, hq0, by rw [hl1]; exact hu, ty0, e0, l0, hb0⟩⟩
              · obtain ⟨g0, g1⟩ := L2.ren p hp
                refine ⟨?_, g1⟩
                cases hq : s.used p.2 with
                | false => rfl
                | true => rw [hk1 _ hq] at g0; cases g0
            · exact fun m2 hw hO hm => L2.rel m2 hw hO hm
          · cases h
        · cases h
      · cases h
    · obtain ⟨hn1, hn2, hn3⟩ := List.nodup_append.1 (hbl ▸ hnd)
      obtain ⟨lc2, L2⟩ := lay_sound ra v.2 j s s2 slots j2 rn us b2 lc hs h ho2 hn2
      exact ⟨lc2, L2.loc, L2.used, L2.node, L2.slo, fun q x hq hx => ⟨(L2.new q x hq hx).1, fun b hb => by rw [hbl]; exact List.mem_append.2 (.inr ((L2.new q x hq hx).2.1 b hb)), (L2.new q x hq hx).2.2⟩, L2.inj, L2.ren, L2.rel⟩
    · cases h
  | .dback i ty e ts ra, v, j, s, s2, slots, j2, rn, us, bl, lc, hs, h, ho, hnd => by
    obtain ⟨u, d, b2, hu, hbl, h1, h2, ho2⟩ := ho
    simp only [layRes] at h
    split at h
    · rename_i q0 hq0
      split at h
      · rename_i ty0 e0 ts0 l0 hb0
        split at h
        · rename_i s' hmk
          split at h
          · rename_i x j' s'' rn' hla
            simp only [Option.some.injEq, Prod.mk.injEq] at h
            obtain ⟨rfl, _, rfl, rfl⟩ := h
            obtain ⟨e1, e2, e3, e4⟩ := make_some hmk
            subst hbl
            obtain ⟨hn1, hn2, hn3⟩ := List.nodup_append.1 hnd
            have hne : ∀ q, s.used q = true → q ≠ Nat.add base j := fun q hq e => by rw [e, e1] at hq; cases hq
            have hnew : ∀ q x, s.used q = false → s'.nodes q = some x → q = Nat.add base j ∧ x = .deep ty e ts v.1 := fun q x hq hx => by
              rw [e2] at hx
              by_cases hqi : q = Nat.add base j
              · subst hqi; simp only [upd_same] at hx; cases hx; exact ⟨rfl, rfl⟩
              · rw [upd_other _ _ hqi] at hx
                have := hs q x hx; rw [hq] at this; cases this
            have hs1 : ∀ q x, s'.nodes q = some x → s'.used q = true := fun q x hx => by
              cases hq : s.used q with
              | true => rw [e3, upd_other _ _ (hne q hq)]; exact hq
              | false => rw [(hnew q x hq hx).1, e3, upd_same]
            obtain ⟨lc2, L2⟩ := lay_sound ra v.2 (Nat.succ j) s' s'' x j' rn' us b2 (upd lc (Nat.add base j) d) hs1 hla ho2 hn2
            have hu1 : s'.used (Nat.add base j) = true := by rw [e3, upd_same]
            have hk1 : ∀ q, s.used q = true → s'.used q = true := fun q hq => by rw [e3, upd_other _ _ (hne q hq)]; exact hq
            have hl1 : lc2 (Nat.add base j) = d := by rw [L2.loc _ hu1, upd_same]
            refine ⟨lc2, fun q hq => (L2.loc q (hk1 q hq)).trans (upd_other _ _ (hne q hq)), fun q hq => L2.used q (hk1 q hq), fun q hq => (L2.node q (hk1 q hq)).trans (by rw [e2, upd_other _ _ (hne q hq)]), L2.slo.trans e4, ?_, ?_, ?_, ?_⟩
            · intro q z hq hz
              cases hq1 : s'.used q with
              | true =>
                rw [L2.node q hq1] at hz
                obtain ⟨rfl, rfl⟩ := hnew q z hq hz
                refine ⟨L2.used _ hq1, fun b hb => List.mem_append.2 (.inl ?_), rfl, by rw [hl1]; exact h2⟩
                rw [hl1] at hb; exact mem_blks.2 hb
              | false =>
                obtain ⟨g1, g2, g3⟩ := L2.new q z hq1 hz
                exact ⟨g1, fun b hb => List.mem_append.2 (.inr (g2 b hb)), g3⟩
            · intro q q' z z' b hq hq' hz hz' hb hb'
              cases hq1 : s'.used q with
              | true =>
                rw [L2.node q hq1] at hz
                obtain ⟨rfl, rfl⟩ := hnew q z hq hz
                rw [hl1] at hb
                cases hq2 : s'.used q' with
                | true =>
                  rw [L2.node q' hq2] at hz'
                  exact (hnew q' z' hq' hz').1.symm
                | false => exact absurd rfl (hn3 b (mem_blks.2 hb) b ((L2.new q' z' hq2 hz').2.1 b hb'))
              | false =>
                cases hq2 : s'.used q' with
                | true =>
                  rw [L2.node q' hq2] at hz'
                  obtain ⟨rfl, rfl⟩ := hnew q' z' hq' hz'
                  rw [hl1] at hb'
                  exact absurd rfl (hn3 b (mem_blks.2 hb') b ((L2.new q z hq1 hz).2.1 b hb))
                | false => exact L2.inj q q' z z' b hq1 hq2 hz hz' hb hb'
            · intro p hp
              rcases List.mem_cons.1 hp with rfl | hp
              · exact ⟨e1, L2.used _ hu1, .inr ⟨⟨ty, e, ts, v.1, by rw [L2.node _ hu1, e2, upd_same]⟩, i, u, hq0, hu, by rw [hl1]; exact h1⟩⟩
              · obtain ⟨g0, g1⟩ := L2.ren p hp
                refine ⟨?_, g1⟩
                cases hq : s.used p.2 with
                | false => rfl
                | true => rw [hk1 _ hq] at g0; cases g0
            · exact fun m2 hw hO hm => L2.rel m2 hw hO hm
          · cases h
        · cases h
      · cases h
    · cases h

theorem renR_sound {m m2 : Mem} {x : Slot} {u : Value} {rn : List (Nat × Nat)} (h2 : SRel m2 x u) (h1 : SRel m x u)
    (hr : ∀ p ∈ rn, m2.used p.2 = true ∧ (((∃ B n c, m2.loc p.2 = .slice B n c) ∧ m.loc p.1 = m2.loc p.2 ∧ ∃ ty e l, m.nodes p.1 = some (Node.row ty e l)) ∨ ((∀ ty e l, m2.nodes p.2 ≠ some (.row ty e l)) ∧ hdr (m2.loc p.2) = hdr (m.loc p.1)))) : SRel m2 (renR rn x) u := by
  have key : ∀ (l : List (Nat × Nat)), (∀ p ∈ l, p ∈ rn) → SRel m2 (renR l x) u := by
    intro l
    induction l with
    | nil => intro _; exact h2
    | cons p l ih =>
      intro hl
      have ih := ih fun q hq => hl q (List.mem_cons_of_mem _ hq)
      cases hs : x with
      | root q' =>
        rw [hs] at ih
        simp only [renR]
        cases hb : Nat.beq q' p.1 with
        | false => exact ih
        | true =>
          have hqq : q' = p.1 := Nat.eq_of_beq_eq_true hb
          subst hqq
          obtain ⟨g1, gg⟩ := hr p (hl p List.mem_cons_self)
          rw [hs] at h1
          simp only [SRel] at h1
          rw [cond_true]
          simp only [SRel]
          rcases gg with ⟨g2, g3, ty, e, l0, g4⟩ | ⟨g2, _⟩
          · have hu := h1.2.2 ty e l0 g4
            rw [hu, g3]
            exact ⟨g1, g2, fun _ _ _ _ => rfl⟩
          · exact ⟨g1, h1.2.1, fun ty e l hrow => absurd hrow (g2 ty e l)⟩
      | droot q' =>
        rw [hs] at ih
        simp only [renR]
        cases hb : Nat.beq q' p.1 with
        | false => exact ih
        | true =>
          have hqq : q' = p.1 := Nat.eq_of_beq_eq_true hb
          subst hqq
          obtain ⟨g1, gg⟩ := hr p (hl p List.mem_cons_self)
          rw [hs] at h1
          simp only [SRel] at h1
          rw [cond_true]
          simp only [SRel]
          rcases gg with ⟨⟨B, nn, c, g2⟩, g3, _⟩ | ⟨_, g2⟩
          · rw [g3, g2] at h1
            cases h1.2.1
          · exact ⟨g1, by rw [g2]; exact h1.2.1, h1.2.2⟩
      | _ => simpa only [renR, hs] using h2
  exact key rn fun _ h => h
theorem renR_fits {k : Kind} {x : Slot} : ∀ {l : List (Nat × Nat)}, fitsD k x = true → fitsD k (renR l x) = true
  | [], h => h
  | (q, n) :: l, h => by
    have ih := renR_fits (l := l) h
    cases x with
    | root q' =>
      simp only [renR]
      cases hb : Nat.beq q' q with
      | true => rw [cond_true]; simpa [fitsD, fits] using h
      | false => rw [cond_false]; exact ih
    | droot q' =>
      simp only [renR]
      cases hb : Nat.beq q' q with
      | true => rw [cond_true]; simpa [fitsD, fits] using h
      | false => rw [cond_false]; exact ih
    | _ => simpa only [renR] using h
theorem SRels_inj {m m' : Mem} : ∀ {l l' : List Slot} {k : Kind} {us us' : List Value}, l.length = l'.length → SRels m k l us → SRels m' k l' us' → catCells us = catCells us' → us = us'
  | [], [], k, us, us', _, h1, h2, _ => by simp only [SRels] at h1 h2; rw [h1.2, h2.2]
  | [], _ :: _, k, us, us', hl, h1, h2, _ => by simp at hl
  | _ :: _, [], k, us, us', hl, h1, h2, _ => by simp at hl
  | x :: l, x' :: l', k, us, us', hl, h1, h2, he => by
    simp only [SRels] at h1 h2
    obtain ⟨u, vs, rfl, g1, g2⟩ := h1
    obtain ⟨u', vs', rfl, g1', g2'⟩ := h2
    simp only [catCells, List.map_cons, List.flatten_cons] at he
    have hll : l.length = l'.length := by simpa using hl
    have hone : ∀ {k : Kind}, Form k u → Form k u' → u = u' ∧ catCells vs = catCells vs' := fun {k} f f' => by
      have hs := f.size
      have hs' := f'.size
      have hlen : u.cells.toList.length = u'.cells.toList.length := by simp only [Array.length_toList]; rw [hs, hs']
      obtain ⟨e1, e2⟩ := List.append_inj he hlen
      exact ⟨by rw [← f.reg, ← f'.reg, e1], e2⟩
    rcases g2 with ⟨a, b, rfl, e1, e2, e3, e4⟩ | ⟨e1, e2, rfl, rfl, e3, e4⟩
    · rcases g2' with ⟨a', b', hk, e1', e2', e3', e4'⟩ | ⟨e1', _, _, _, _, _⟩
      · cases hk
        obtain ⟨rfl, hc⟩ := hone e2 e2'
        rw [SRels_inj hll e4 e4' hc]
      · exact e1'.elim
    · rcases g2' with ⟨a', b', rfl, e1', e2', e3', e4'⟩ | ⟨e1', _, rfl, rfl, e3', _⟩
      · exact e1.elim
      · rw [(hone e3 e3').1]
theorem SRels_renR {m m2 : Mem} {rn : List (Nat × Nat)} (hr : ∀ p ∈ rn, m2.used p.2 = true ∧ (((∃ B n c, m2.loc p.2 = .slice B n c) ∧ m.loc p.1 = m2.loc p.2 ∧ ∃ ty e l, m.nodes p.1 = some (Node.row ty e l)) ∨ ((∀ ty e l, m2.nodes p.2 ≠ some (.row ty e l)) ∧ hdr (m2.loc p.2) = hdr (m.loc p.1)))) :
    ∀ {l : List Slot} {k : Kind} {us : List Value}, SRels m2 k l us → SRels m k l us → SRels m2 k (l.map (renR rn)) us
  | [], k, us, h2, h1 => by simpa only [List.map_nil, SRels] using h2
  | x :: l, k, us, h2, h1 => by
    simp only [SRels] at h1 h2
    obtain ⟨u, vs, rfl, g1, g2⟩ := h1
    obtain ⟨u', vs', e0, g1', g2'⟩ := h2
    cases e0
    simp only [List.map_cons, SRels]
    refine ⟨u, vs, rfl, renR_sound g1' g1 hr, ?_⟩
    rcases g2' with ⟨a, b, rfl, e1, e2, e3, e4⟩ | ⟨e1, e2, rfl, rfl, e3, e4⟩
    · rcases g2 with ⟨a', b', hk, _, _, _, e4'⟩ | ⟨e1', _⟩
      · cases hk
        exact .inl ⟨a, b, rfl, by simpa using e1, e2, renR_fits e3, SRels_renR hr e4 e4'⟩
      · exact e1'.elim
    · exact .inr ⟨e1, e2, rfl, rfl, e3, renR_fits e4⟩
theorem renS_sound {m m2 : Mem} {x : Slot} {u : Value} {rn : List (Nat × Nat)} (h2 : SRel m2 x u) (h1 : SRel m x u)
    (hr : ∀ p ∈ rn, m2.used p.2 = true ∧ (((∃ B n c, m2.loc p.2 = .slice B n c) ∧ m.loc p.1 = m2.loc p.2 ∧ ∃ ty e l, m.nodes p.1 = some (Node.row ty e l)) ∨ ((∀ ty e l, m2.nodes p.2 ≠ some (.row ty e l)) ∧ hdr (m2.loc p.2) = hdr (m.loc p.1)))) : SRel m2 (renS rn x) u := by
  cases x with
  | agg k xs =>
    simp only [SRel] at h1 h2
    obtain ⟨a, us, rfl, rfl, h3⟩ := h1
    obtain ⟨a', us', e1, e2, h3'⟩ := h2
    cases e1
    have := SRels_inj rfl h3 h3' (by simpa using e2)
    subst this
    simp only [renS, SRel]
    exact ⟨a, us, rfl, rfl, SRels_renR hr h3' h3⟩
  | _ => simp only [renS]; exact renR_sound h2 h1 hr
theorem renS_fits {k : Kind} {x : Slot} {l : List (Nat × Nat)} (h : fitsD k x = true) : fitsD k (renS l x) = true := by
  cases x with
  | agg k' xs => simpa [renS, fitsD, fits] using h
  | _ => simp only [renS]; exact renR_fits h
theorem renN_some {l : List (Nat × Nat)} {x : Option Node} {nd' : Node} (h : renN l x = some nd') : ∃ nd, x = some nd ∧ shape nd nd' ∧ (nd = nd' ∨ ∃ k c, nd = .var k c ∧ nd' = .var k (renS l c)) := by
  cases x with
  | none => cases h
  | some nd =>
    cases nd with
    | var k c => simp only [renN, Option.some.injEq] at h; subst h; exact ⟨_, rfl, rfl, .inr ⟨k, c, rfl, rfl⟩⟩
    | _ => simp only [renN, Option.some.injEq] at h; subst h; exact ⟨_, rfl, shape.refl _, .inl rfl⟩

theorem Frame0.trans' {w w' w'' : World} {O : Nat → Prop} {BL : Nat → Prop} (h : Frame0 w O w') (hf : Frame0 w' BL w'') (hB : ∀ b, BL b → w.heap.size ≤ b ∨ O b) : Frame0 w O w'' :=
  ⟨hf.os.trans h.os, ⟨hf.tape.1.trans h.tape.1, fun hs => Nat.le_trans (h.tape.2 hs) (hf.tape.2 hs)⟩, hf.output.trans h.output, Nat.le_trans h.size hf.size, fun b hb ho =>
    (hf.block b (Nat.lt_of_lt_of_le hb h.size) fun hx => by rcases hB b hx with h1 | h1; omega; exact ho h1).trans (h.block b hb ho)⟩

theorem ROut.flat_any {w : World} {O O' : Nat → Prop} {args : List Value} : ∀ {r : RS} {v : r.T} {us : List Value} {bl : List Nat}, r.flatR = true → ROut w O args r v us bl → ROut w O' args r v us bl
  | .val k, v, us, bl, hf, ⟨h1, u, h2, h3⟩ => ⟨h1, u, h2, h3.flat_any hf⟩
  | .own ty e, v, us, bl, hf, ⟨u, xs, h1, h2, h3, h4⟩ => ⟨u, xs, h1, h2, h3, h4.imp fun c x hc => hc.flat_any hf⟩
  | .pair a b, v, us, bl, hf, ⟨u, us', b1, b2, h1, h2, h3, h4⟩ => by
    simp only [RS.flatR, Bool.and_eq_true] at hf
    exact ⟨u, us', b1, b2, h1, h2, ROut.flat_any hf.1 h3, ROut.flat_any hf.2 h4⟩
  | .agg a, v, us, bl, hf, ⟨us', h1, h2⟩ => ⟨us', h1, ROut.flat_any (r := a) hf h2⟩
  | .tup a, v, us, bl, hf, ⟨us', h1, h2⟩ => ⟨us', h1, ROut.flat_any (r := a) hf h2⟩
  | .nil, v, us, bl, hf, h => h
  | .deep ty e ts, v, us, bl, hf, ⟨u, d, h1, h2, h3, h4⟩ => ⟨u, d, h1, h2, h3, h4.flat_any⟩
  | .dback i ty e ts a, v, us, bl, hf, ⟨u, d, b2, h1, h2, h3, h4, h5⟩ => ⟨u, d, b2, h1, h2, h3, h4.flat_any, ROut.flat_any (r := a) hf h5⟩
  | .back i ty e a, v, us, bl, hf, ⟨u, xs, b2, h1, h2, h3, h4, h5⟩ => by
    simp only [RS.flatR, Bool.and_eq_true] at hf
    exact ⟨u, xs, b2, h1, h2, h3, h4.imp fun c x hc => hc.flat_any hf.1, ROut.flat_any hf.2 h5⟩

theorem drops_some {nodes : Nat → Option Node} {l : List Nat} {q : Nat} {x : Node} (h : drops nodes l q = some x) : nodes q = some x ∧ q ∉ l := by
  unfold drops at h
  cases hb : l.contains q with
  | true => rw [hb] at h; cases h
  | false => rw [hb] at h; exact ⟨h, by simpa using hb⟩
theorem behind_some {F : Fn} {nd : Nat → Option Node} {xs : List Slot} {q : Nat} {x : Node} (h : behind F nd xs q = some x) : nd q = some x ∧ (F.res.flatR = true ∨ q ∉ lentA F.ps xs) := by
  unfold behind at h
  cases hb : F.res.flatR with
  | true => rw [hb] at h; exact ⟨h, .inl rfl⟩
  | false => rw [hb] at h; exact ⟨(drops_some h).1, .inr (drops_some h).2⟩
theorem argsT_alive {before nd : Nat → Option Node} : ∀ (ps : List PS) (xs : List Slot) (v : ArgsT ps), argsT before nd ps xs = some v → ∀ q ∈ lentA ps xs, ∃ x, nd q = some x
  | [], [], v, h => by simp [lentA]
  | [], _ :: _, v, h => by simp [lentA]
  | .val k :: ps, [], v, h => by simp [lentA]
  | .val k :: ps, x :: xs, v, h => by
    simp only [argsT] at h
    cases hx : asVal nd 8 x k with
    | none => simp [hx] at h
    | some y =>
      cases hr : argsT before nd ps xs with
      | none => simp [hx, hr] at h
      | some ys =>
        intro q hq
        simp only [lentA, List.mem_append] at hq
        rcases hq with hq | hq
        · exact asVal_alive 8 x k y hx q hq
        · exact argsT_alive ps xs ys hr q hq
  | .own ty e :: ps, [], v, h => by simp [lentA]
  | .own ty e :: ps, x :: xs, v, h => by
    simp only [lentA]
    cases x <;> simp only [argsT] at h <;> (try (cases h; done))
    · cases hr : argsT before nd ps xs with
      | none => simp [hr] at h
      | some ys => exact argsT_alive ps xs ys hr
    · split at h
      · split at h
        · split at h
          · cases hr : argsT before nd ps xs with
            | none => simp [hr] at h
            | some ys => exact argsT_alive ps xs ys hr
          · cases h
        · cases h
      · cases h
  | .deep ty e ts :: ps, [], v, h => by simp [lentA]
  | .deep ty e ts :: ps, x :: xs, v, h => by
    simp only [lentA]
    cases x <;> simp only [argsT] at h <;> (try (cases h; done))
    · split at h
      · split at h
        · split at h
          · split at h
            · cases hr : argsT before nd ps xs with
              | none => simp [hr] at h
              | some ys => exact argsT_alive ps xs ys hr
            · cases h
          · cases h
        · cases h
      · cases h

theorem handed_none : ∀ {ps : List PS} {xs : List Slot}, noOwn ps = true → handed m ps xs = []
  | [], xs, h => by cases xs <;> rfl
  | .val _ :: ps, [], h => rfl
  | .val _ :: ps, _ :: xs, h => by simp only [handed]; exact handed_none (ps := ps) h
  | .own _ _ :: ps, xs, h => by simp [noOwn] at h
  | .deep _ _ _ :: ps, xs, h => by simp [noOwn] at h
theorem growFn_pick {f : Nat} {xs : List Slot} {F : Fn} (h : growFn cx f = true) (hp : pickF cx f xs = some F) : noOwn F.ps = true := by
  unfold growFn at h
  unfold pickF at hp
  cases hf : cx.fn f with
  | some F' => rw [hf] at hp h; cases hp; exact h
  | none =>
    rw [hf] at hp h
    exact List.all_eq_true.1 h F (firstF_mem hp)
theorem handed_row {m : Mem} (hN : ∀ q x, m.nodes q = some x → NodeRel m q x) : ∀ (ps : List PS) (xs : List Slot) (cur nd : Nat → Option Node), (∀ q x, cur q = some x → m.nodes q = some x) → takeOwn cur ps xs = some nd → ∀ b ∈ handed m ps xs, RowB m b
  | [], [], cur, nd, hc, h => by simp [handed]
  | [], _ :: _, cur, nd, hc, h => by simp [handed]
  | .val _ :: ps, [], cur, nd, hc, h => by simp [handed]
  | .own _ _ :: ps, [], cur, nd, hc, h => by simp [handed]
  | .deep _ _ _ :: ps, [], cur, nd, hc, h => by simp [handed]
  | .val _ :: ps, x :: xs, cur, nd, hc, h => by
    simp only [takeOwn] at h
    simpa only [handed] using handed_row hN ps xs cur nd hc h
  | .own ty e :: ps, x :: xs, cur, nd, hc, h => by
    cases x <;> simp only [takeOwn] at h <;> (try (cases h; done))
    · simpa only [handed] using handed_row hN ps xs cur nd hc h
    · rename_i q
      split at h
      · rename_i ty' e' l hq
        intro b hb
        simp only [handed, List.mem_append, Option.mem_toList] at hb
        rcases hb with hb | hb
        · have hrow : NodeRel m q (.row ty' e' l) := hN q _ (hc q _ hq)
          obtain ⟨ys, hown, _⟩ := hrow
          exact ⟨q, _, hc q _ hq, rfl, (own_blk hown).2 hb⟩
        · refine handed_row hN ps xs _ nd (fun q' x hx => hc q' x ?_) h b hb
          by_cases hqq : q' = q
          · subst hqq; rw [upd_same] at hx; cases hx
          · rwa [upd_other _ _ hqq] at hx
      · cases h
  | .deep ty e ts :: ps, x :: xs, cur, nd, hc, h => by
    cases x <;> simp only [takeOwn] at h <;> (try (cases h; done))
    · rename_i q
      split at h
      · rename_i ty' e' ts' l hq
        intro b hb
        simp only [handed, List.mem_append] at hb
        rcases hb with hb | hb
        · exact ⟨q, _, hc q _ hq, rfl, mem_blks.1 hb⟩
        · refine handed_row hN ps xs _ nd (fun q' x hx => hc q' x ?_) h b hb
          by_cases hqq : q' = q
          · subst hqq; rw [upd_same] at hx; cases hx
          · rwa [upd_other _ _ hqq] at hx
      · cases h
theorem SRels_tup : ∀ {l : List Slot} {k : Kind} {us : List Value}, SRels m k l us → STup m l us
  | [], k, us, h => by simp only [SRels] at h; simp only [STup]; exact h.2
  | x :: l, k, us, h => by
    simp only [SRels] at h
    obtain ⟨u, us', rfl, h1, h2⟩ := h
    simp only [STup]
    refine ⟨u, us', rfl, h1, ?_⟩
    rcases h2 with ⟨a, b, rfl, h3, h4, h6, h5⟩ | ⟨h3, h6, rfl, rfl, h4, h7⟩
    · exact SRels_tup h5
    · simp [STup]
theorem SRels_tup_len : ∀ {l : List Slot} {us : List Value}, STup m l us → us.length = l.length
  | [], us, h => by simp only [STup] at h; subst h; rfl
  | x :: l, us, h => by
    simp only [STup] at h
    obtain ⟨u, us', rfl, h1, h2⟩ := h
    simp [SRels_tup_len h2]
theorem flatS_sound : ∀ (sh : List Nat) (xs : List Slot) (us : List Value) (ys : List Slot), STup m xs us → flatS sh xs = some ys → ∃ vs, STup m ys vs ∧ pack sh vs = us
  | [], xs, us, ys, hs, h => by simp only [flatS, Option.some.injEq] at h; subst h; exact ⟨us, hs, rfl⟩
  | 0 :: sh, [], us, ys, hs, h => by simp [flatS] at h
  | 0 :: sh, x :: xs, us, ys, hs, h => by
    simp only [flatS] at h
    split at h
    · rename_i l hl
      cases h
      simp only [STup] at hs
      obtain ⟨u, us', rfl, h1, h2⟩ := hs
      obtain ⟨vs, h3, h4⟩ := flatS_sound sh xs us' l h2 hl
      exact ⟨u :: vs, by simp only [STup]; exact ⟨u, vs, rfl, h1, h3⟩, by simp [pack, h4]⟩
    · cases h
  | (n + 1) :: sh, [], us, ys, hs, h => by simp [flatS] at h
  | (n + 1) :: sh, x :: xs, us, ys, hs, h => by
    cases x <;> simp only [flatS] at h <;> (try (cases h; done))
    rename_i k l
    cases hb : Nat.beq l.length (Nat.succ n) with
    | false => rw [hb, cond_false] at h; cases h
    | true =>
      rw [hb, cond_true] at h
      have hll : l.length = n + 1 := Nat.eq_of_beq_eq_true hb
      split at h
      · rename_i l' hl
        cases h
        simp only [STup] at hs
        obtain ⟨u, us', rfl, h1, h2⟩ := hs
        simp only [SRel] at h1
        obtain ⟨a', us2, rfl, rfl, h3⟩ := h1
        have ht := SRels_tup h3
        have hlen : us2.length = n + 1 := (SRels_tup_len ht).trans hll
        obtain ⟨vs, h4, h5⟩ := flatS_sound sh xs us' l' h2 hl
        refine ⟨us2 ++ vs, STup_append ht h4, ?_⟩
        simp only [pack]
        rw [← hlen, List.take_left', List.drop_left', h5] <;> rfl
      · cases h
theorem callH_sound (hF : FnsOK P G cx) (hG : ∀ w', Frame0 w0 O0 w' → G w') (hR : Rel st a m w0 O0 n) (hd : ∀ t, o.dst = some t → t < n ∧ O0.fx t = none) {f : Nat} {xs0 : List Slot} {us0 : List Value} (hs : STup m xs0 us0)
    (hrun0 : callable P f = true → (execOp a.eval o).run P m.w = .ok (.enter f us0.toArray) m.w) (h : callH cx st o K f xs0 = some r) : ∃ st', K st' = some r ∧ ∃ Z, HOpC P o a m st' w0 O0 n Z ∧ (growFn cx f = true → ∀ b, ¬ Z b) ∧ ∀ b, Z b → RowB m b := by
  simp only [callH] at h
  split at h
  rotate_left
  · cases h
  rename_i F hf
  split at h
  rotate_left
  · cases h
  rename_i xs hxs
  obtain ⟨us, hs0, hpk⟩ := flatS_sound F.sh xs0 us0 xs hs hxs
  subst hpk
  · split at h
    · rename_i nd hnd
      split at h
      · rename_i v hv
        obtain ⟨res, h1, h2⟩ := Option.bind_eq_some_iff.1 h
        split at h2
        · rename_i x j s2 rn hlay
          have hin : ∀ q x, st.nodes q = some x → m.nodes q = some x := fun q x h => by rw [hR.nodes]; exact h
          obtain ⟨k1, k2, k3⟩ := takeOwn_sound hR.ok F.ps _ st.nodes nd hin hnd
          have hal := argsT_alive F.ps _ v hv
          have hO : ∀ b ∈ handed m F.ps xs, m.own b := fun b hb => by
            obtain ⟨q, x, h3, _, h4⟩ := k3 b hb
            exact ⟨q, x, hin q x h3, h4⟩
          -- what the callee keeps away from
          let Y : Nat → Prop := fun b => (∃ q x, nd q = some x ∧ q ∉ lentA F.ps xs ∧ Blk (m.loc q) b) ∨ m.X b
          have hY : ∀ b, Y b → m.O b := by
            rintro b (⟨q, x, h3, _, h4⟩ | hb)
            · exact .inl ⟨q, x, hin q x (k1 q x h3), h4⟩
            · exact .inr hb
          have hlent : ∀ q ∈ lentA F.ps xs, ∀ b, Blk (m.loc q) b → ¬ Y b := by
            intro q hq b hb hyb
            obtain ⟨z, hz⟩ := hal q hq
            rcases hyb with ⟨q', x, h3, h4, h5⟩ | hyb
            · have : q = q' := hR.ok.inj q q' z x b (hin q z (k1 q z hz)) (hin q' x (k1 q' x h3)) hb h5
              subst this; exact h4 hq
            · exact hR.ok.apart ⟨q, z, hin q z (k1 q z hz), hb⟩ hyb
          have hfar : ∀ b, Y b → b < m.w.heap.size ∧ ¬ b ∈ handed m F.ps xs := by
            intro b hb
            refine ⟨hR.ok.O_lt (hY b hb), fun hbl => ?_⟩
            obtain ⟨q', x', h3, h4, h5⟩ := k3 b hbl
            rcases hb with ⟨q, x, g3, _, g5⟩ | hb
            · have : q = q' := hR.ok.inj q q' x x' b (hin q x (k1 q x g3)) (hin q' x' h3) g5 h5
              subst this; rw [h4] at g3; cases g3
            · exact hR.ok.apart (hO b hbl) hb
          have ha := argsT_sound hR k1 k3 hY F.ps xs us v hs0 hlent hv
          have hc := (hF.pick hf).1 v res m.w _ _ Y h1 ha k2 hfar fun w'' hf' => hG w'' (hR.ok.frame.trans' hf' fun b hb => hR.ok.base b (hO b hb))
          refine ⟨_, h2, (· ∈ handed m F.ps xs), fun next Q hn => ?_, fun hg b hb => (by rw [handed_none (growFn_pick hg hf)] at hb; cases hb), handed_row hR.ok.node F.ps xs st.nodes nd hin hnd⟩
          have hrun := hrun0 (hF.pick hf).2
          unfold Oper.wp
          rw [hrun]
          refine hc.mono ?_
          rintro e w' ⟨u, rfl, hfr, bl', hro, hnd', hbl'⟩
          show next (a.put o.dst u) w'
          have hb1 : ∀ q x, behind F nd xs q = some x → nd q = some x := fun q x h => (behind_some h).1
          have hsu : ∀ q x, ({ st with nodes := behind F nd xs } : St).nodes q = some x → ({ st with nodes := behind F nd xs } : St).used q = true := fun q x hx => by
            show st.used q = true
            rw [← hR.used]; exact hR.ok.used q x (hin q x (k1 q x (hb1 q x hx)))
          -- what the results keep away from
          obtain ⟨Z, hZ, hro⟩ : ∃ Z : Nat → Prop, (∀ q x b, behind F nd xs q = some x → Blk (m.loc q) b → Z b) ∧ ROut w' (fun b => b ∈ bl' ∨ Z b ∨ m.X b) us F.res res [u] bl' := by
            cases hfl : F.res.flatR with
            | true => exact ⟨fun _ => True, fun _ _ _ _ _ => trivial, ROut.flat_any hfl hro⟩
            | false =>
              refine ⟨fun b => ∃ q x, nd q = some x ∧ q ∉ lentA F.ps xs ∧ Blk (m.loc q) b, fun q x b h h' => ?_, hro⟩
              obtain ⟨h3, h4⟩ := behind_some h
              refine ⟨q, x, h3, h4.resolve_left (by rw [hfl]; simp), h'⟩
          obtain ⟨lc2, L⟩ := lay_sound F.res res 0 { st with nodes := behind F nd xs } s2 [x] j rn [u] bl' m.loc hsu hlay hro hnd'
          have hOL : ∀ b, (⟨w', s2.nodes, s2.used, lc2, m.X⟩ : Mem).O b → b ∈ bl' ∨ Z b ∨ m.X b := by
            rintro b (⟨q, x, hx, hb⟩ | hb)
            · cases hq : st.used q with
              | true =>
                have hx' : behind F nd xs q = some x := by have := L.node q hq; dsimp only at hx; rw [this] at hx; exact hx
                have := L.loc q hq
                dsimp only at hb; rw [this] at hb
                exact .inr (.inl (hZ q x b hx' hb))
              | false => exact .inl ((L.new q x hq hx).2.1 b hb)
            · exact .inr (.inr hb)
          have hTn : Turn m (⟨w', s2.nodes, s2.used, lc2, m.X⟩ : Mem) (· ∈ handed m F.ps xs) := by
            refine ⟨rfl, hO, hfr, fun q hq => L.used q (by show st.used q = true; rw [← hR.used]; exact hq), fun q hq => L.loc q (by show st.used q = true; rw [← hR.used]; exact hq), ?_, ?_⟩
            · intro q x hq hx
              have hq' : st.used q = true := by rw [← hR.used]; exact hq
              have hx' : nd q = some x := by have := L.node q hq'; dsimp only at hx; rw [this] at hx; exact hb1 q x hx
              refine ⟨hin q x (k1 q x hx'), fun b hb hbl => ?_⟩
              obtain ⟨q', x', h3, h4, h5⟩ := k3 b hbl
              have : q = q' := hR.ok.inj q q' x x' b (hin q x (k1 q x hx')) (hin q' x' h3) hb h5
              subst this; rw [h4] at hx'; cases hx'
            · intro q x hq hx b hb
              have hq' : st.used q = false := by rw [← hR.used]; exact hq
              rcases hbl' b ((L.new q x hq' hx).2.1 b hb) with h3 | h3
              · exact .inr h3
              · exact .inl h3
          have hR1 : Rel s2 a ⟨w', s2.nodes, s2.used, lc2, m.X⟩ w0 O0 n := by
            refine hTn.rel hR L.slo rfl rfl ?_ ?_
            · intro q x hq hx
              have hq' : st.used q = false := by rw [← hR.used]; exact hq
              obtain ⟨g1, g2, _, g4⟩ := L.new q x hq' hx
              exact ⟨g1, NodeW.rel (m := ⟨w', s2.nodes, s2.used, lc2, m.X⟩) g4 rfl hOL⟩
            · intro q q' x x' b hq hq' hx hx' hb hb'
              have e1 : st.used q = false := by rw [← hR.used]; exact hq
              have e2 : st.used q' = false := by rw [← hR.used]; exact hq'
              exact L.inj q q' x x' b e1 e2 hx hx' hb hb'
          have hrel := L.rel ⟨w', s2.nodes, s2.used, lc2, m.X⟩ rfl hOL fun q hq => ⟨hq, rfl⟩
          simp only [STup] at hrel
          obtain ⟨u2, us2, e1, e2, _⟩ := hrel
          cases e1
          -- rows that came back go on under a new name
          have hren : ∀ p ∈ rn, s2.used p.2 = true ∧ (((∃ B n c, lc2 p.2 = .slice B n c) ∧ m.loc p.1 = lc2 p.2 ∧ ∃ ty e l, m.nodes p.1 = some (Node.row ty e l)) ∨ ((∀ ty e l, s2.nodes p.2 ≠ some (.row ty e l)) ∧ hdr (lc2 p.2) = hdr (m.loc p.1))) := by
            intro p hp
            obtain ⟨g0, g1, gg⟩ := L.ren p hp
            refine ⟨g1, ?_⟩
            rcases gg with ⟨g2, i, g3, g4, ty, e, l, g5⟩ | ⟨⟨ty, e, ts, l, g2⟩, i, u3, g3, g4, g5⟩
            · refine .inl ⟨g2, ?_, ty, e, l, by rw [hR.nodes]; exact g5⟩
              obtain ⟨u3, hu3, hs3⟩ := STup_get hs0 g3
              rw [g4] at hu3
              obtain rfl := Option.some.inj hu3
              simp only [SRel] at hs3
              exact (hs3.2.2 ty e l (by rw [hR.nodes]; exact g5)).symm
            · refine .inr ⟨fun ty' e' l' hrow => (by rw [g2] at hrow; cases hrow), ?_⟩
              obtain ⟨u4, hu4, hs4⟩ := STup_get hs0 g3
              rw [g4] at hu4
              obtain rfl := Option.some.inj hu4
              simp only [SRel] at hs4
              exact g5.trans hs4.2.1.symm
          let m2 : Mem := ⟨w', (s2.ren rn).nodes, s2.used, lc2, m.X⟩
          have hnd2 : ∀ q nd', m2.nodes q = some nd' → ∃ nd, s2.nodes q = some nd ∧ shape nd nd' ∧ (nd = nd' ∨ ∃ k c, nd = .var k c ∧ nd' = .var k (renS rn c)) := by
            intro q nd' hq
            cases rn with
            | nil => exact ⟨nd', hq, shape.refl _, .inl rfl⟩
            | cons p l => exact renN_some hq
          have hnd3 : ∀ q nd, s2.nodes q = some nd → ∃ nd', m2.nodes q = some nd' := by
            intro q nd hq
            cases rn with
            | nil => exact ⟨nd, hq⟩
            | cons p l =>
              show ∃ nd', renN (p :: l) (s2.nodes q) = some nd'
              rw [hq]; cases nd <;> exact ⟨_, rfl⟩
          have hown2 : ∀ b, m2.own b ↔ (⟨w', s2.nodes, s2.used, lc2, m.X⟩ : Mem).own b := fun b => by
            constructor
            · rintro ⟨q, nd', hq, hb⟩
              obtain ⟨nd, h1, _⟩ := hnd2 q nd' hq
              exact ⟨q, nd, h1, hb⟩
            · rintro ⟨q, nd, hq, hb⟩
              obtain ⟨nd', h1⟩ := hnd3 q nd hq
              exact ⟨q, nd', h1, hb⟩
          have hle2 : (⟨w', s2.nodes, s2.used, lc2, m.X⟩ : Mem).le m2 := ⟨⟨fun _ _ _ => rfl, fun b _ hb => hb.imp (hown2 b).1 id⟩, fun _ h => h, fun _ _ => rfl, fun q nd' _ hq => by
            obtain ⟨nd, h1, h2, _⟩ := hnd2 q nd' hq
            exact .inr ⟨nd, h1, h2⟩⟩
          have hren2 : ∀ p ∈ rn, m2.used p.2 = true ∧ (((∃ B n c, m2.loc p.2 = .slice B n c) ∧ m.loc p.1 = m2.loc p.2 ∧ ∃ ty e l, m.nodes p.1 = some (Node.row ty e l)) ∨ ((∀ ty e l, m2.nodes p.2 ≠ some (.row ty e l)) ∧ hdr (m2.loc p.2) = hdr (m.loc p.1))) := by
            intro p hp
            obtain ⟨g1, gg⟩ := hren p hp
            refine ⟨g1, gg.imp id fun h => ⟨fun ty e l hrow => ?_, h.2⟩⟩
            obtain ⟨nd, h1, h2, h3⟩ := hnd2 _ _ hrow
            rcases h3 with rfl | ⟨k, c, rfl, h4⟩
            · exact h.1 ty e l h1
            · cases h4
          have hR2 : Rel (s2.ren rn) a m2 w0 O0 n := by
            have hus : (s2.ren rn).used = s2.used := by cases rn <;> rfl
            refine ⟨rfl, hus.symm, ⟨fun q nd' hq => ?_, fun q nd' hq => ?_, fun q q' x x' b hq hq' hb hb' => ?_, hR1.ok.frame, fun b hb => hR1.ok.base b ((hown2 b).1 hb), hR1.ok.keeps, hR1.ok.far⟩, fun t => ?_, hR1.defers, hR1.size, hR1.fixed⟩
            · obtain ⟨nd, h1, h2, h3⟩ := hnd2 q nd' hq
              have h4 := (hR1.ok.node q nd h1).mono hle2 (hR1.ok.used q nd h1) fun _ _ => rfl
              rcases h3 with rfl | ⟨k, c, rfl, rfl⟩
              · exact h4
              · obtain ⟨g, blk, ty, u, f1, f2, f3, f4, f5, f6⟩ := h4
                refine ⟨g, blk, ty, u, f1, f2, f3, f4, renS_fits f5, renS_sound f6 ?_ hren2⟩
                cases hq1 : st.used q with
                | false =>
                  have := (L.new q _ hq1 h1).2.2.1
                  simp [isRow] at this
                | true =>
                  have h5 := L.node q hq1
                  rw [h1] at h5
                  have h6 : m.nodes q = some (.var k c) := hin q _ (k1 q _ (hb1 q _ h5.symm))
                  obtain ⟨g', blk', ty', u', e1, e2, e3, e4, e5, e6⟩ := hR.ok.node q _ h6
                  have hl := L.loc q hq1
                  have f1' : lc2 q = .pointer (some ⟨g, 0, none⟩) := f1
                  rw [hl, e1] at f1'
                  have hgg : g' = g := by simpa using f1'
                  subst hgg
                  have hkeep : w'.heap[g']? = m.w.heap[g']? := hfr.block g' (lt_of_heap e2) fun hbl => by
                    obtain ⟨q', x', g3, g4, g5⟩ := k3 g' hbl
                    have : q = q' := hR.ok.inj q q' _ x' g' h6 (hin q' x' g3) (by rw [e1]; rfl) g5
                    subst this
                    have h7 : nd q = some (.var k c) := hb1 q _ h5.symm
                    rw [g4] at h7; cases h7
                  have f2' : w'.heap[g']? = some (.cells blk ty (0, 0)) := f2
                  rw [hkeep, e2] at f2'
                  cases f2'
                  have : u' = u := by rw [← e4.reg, ← f4.reg, e3, f3]
                  rw [← this]; exact e6
            · obtain ⟨nd, h1, _⟩ := hnd2 q nd' hq
              exact hR1.ok.used q nd h1
            · obtain ⟨nd, h1, _⟩ := hnd2 q x hq
              obtain ⟨nd', h1', _⟩ := hnd2 q' x' hq'
              exact hR1.ok.inj q q' nd nd' b h1 h1' hb hb'
            · have hst : s2.slots t = st.slots t := by rw [L.slo]
              have key := renS_sound (m := m) (m2 := m2) (rn := rn) (SRel.mono hle2 _ (hR1.slot t)) (by rw [hst]; exact hR.slot t) hren2
              cases rn with
              | nil => exact SRel.mono hle2 _ (hR1.slot t)
              | cons p l => exact key
          have e2 := SRel.mono hle2 _ e2
          refine hn _ _ (hR2.put o.dst hd e2) hfr ?_ fun q hq => ⟨L.used q (by show st.used q = true; rw [← hR.used]; exact hq), L.loc q (by show st.used q = true; rw [← hR.used]; exact hq)⟩
          rintro b ⟨q, x0, hx', hx0, hb'⟩
          have hx : s2.nodes q = some x0 := by
            obtain ⟨nd, h1, _, h3⟩ := hnd2 q x0 hx'
            rcases h3 with rfl | ⟨k, c, _, rfl⟩
            · exact h1
            · simp [isRow] at hx0
          have hb : Blk (lc2 q) b := hb'
          cases hq : st.used q with
          | true =>
            have hx' : nd q = some x0 := by have := L.node q hq; rw [this] at hx; exact hb1 q _ hx
            have := L.loc q hq
            rw [this] at hb
            exact .inl ⟨q, x0, hin q _ (k1 q _ hx'), hx0, hb⟩
          | false =>
            rcases hbl' b ((L.new q _ hq hx).2.1 b hb) with h3 | h3
            · exact .inr h3
            · exact .inl (handed_row hR.ok.node F.ps xs st.nodes nd hin hnd b h3)
        · cases h2
      · cases h
    · cases h
theorem partAt_some {st : St} : ∀ {ps : List PS} {args : List Operand} {t q : Nat} {i : Int} {f j : Nat}, partAt st ps args = some (t, q, i, f, j) → st.slots t = .part q i f j
  | [], _, t, q, i, f, j, h => by simp [partAt] at h
  | p :: ps, [], t, q, i, f, j, h => by cases p <;> simp [partAt] at h
  | .val _ :: ps, x :: xs, t, q, i, f, j, h => by simp only [partAt] at h; exact partAt_some h
  | .deep _ _ _ :: ps, x :: xs, t, q, i, f, j, h => by simp only [partAt] at h; exact partAt_some h
  | .own _ _ :: ps, x :: xs, t, q, i, f, j, h => by
    cases x with
    | tmp t' =>
      simp only [partAt] at h
      split at h
      · rename_i hs
        simp only [Option.some.injEq, Prod.mk.injEq] at h
        obtain ⟨rfl, rfl, rfl, rfl, rfl⟩ := h
        exact hs
      · exact partAt_some h
    | _ => simp only [partAt] at h; exact partAt_some h
theorem STup.mono' {m m' : Mem} (h : m.le m') {l : List Slot} {us : List Value} (hs : STup m l us) : STup m' l us := STup.mono h l hs
/-- a call that is handed a row of a deep row's element -/
theorem callP_sound (hF : FnsOK P G cx) (hG : ∀ w', Frame0 w0 O0 w' → G w') (hR : Rel st a m w0 O0 n) (hd : ∀ t, o.dst = some t → t < n ∧ O0.fx t = none) {f : Nat} {args : List Operand} {ex : List Slot} {caps : List Value} (hex : STup m ex caps)
    (hrun0 : callable P f = true → (execOp a.eval o).run P m.w = .ok (.enter f (args.map a.eval ++ caps).toArray) m.w) (h : callP cx st o K f args ex = some r) : ∃ st', K st' = some r ∧ ∃ Z, HOpR P o a m st' w0 O0 n Z ∧ (growFn cx f = true → ∀ b, ¬ Z b) ∧ ∀ b, Z b → RowB m b := by
  simp only [callP] at h
  split at h
  · rename_i F hpk
    split at h
    · obtain ⟨st', q1, Z, q2, q3⟩ := callH_sound hF hG hR hd (STup_append (STup_eval hR args) hex) hrun0 h
      exact ⟨st', q1, Z, q2.r, q3⟩
    · rename_i t q i f' j hpa
      have hst := partAt_some hpa
      split at h
      · rename_i ty e ts l hn
        split at h
        · rename_i e' v ty' hpart hty
          cases hdst : o.dst.any (Nat.beq t) with
          | true => rw [hdst, cond_true] at h; cases h
          | false =>
          rw [hdst, cond_false] at h
          split at h
          · rename_i st1 hmk
            have hdt : ∀ t', o.dst = some t' → t' ≠ t := fun t' h1 h2 => by
              rw [h1, h2] at hdst
              simp [Nat.beq_refl] at hdst
            obtain ⟨hm1, hm2, hm3, hm4⟩ := make_some hmk
            dsimp only at hm1 hm2 hm3 hm4
            have hsp := hR.slot t
            rw [hst] at hsp
            simp only [SRel] at hsp
            obtain ⟨hqu, h0, hprt, hsl⟩ := hsp
            generalize hu : a.tmps.getD t undef = u at hprt hsl
            have hD := hR.deep hn
            have hB : deepB e ts = true := by obtain ⟨_, _, _, _, hB, _⟩ := hD; exact hB
            obtain ⟨a2, rfl, ha, _⟩ := deepB_struct hB
            obtain ⟨hil, ty2, hty2, hpok⟩ := part_get hD h0 hprt hpart
            rw [hty] at hty2; cases hty2
            have hfe : flat e' = true := parts_flat ha _ (List.mem_of_getElem? (show (partsP a2 _)[j]? = some ⟨e', v⟩ from hpart))
            have hn' : m.nodes q = some (.deep ty (.struct a2) ts l) := by rw [hR.nodes]; exact hn
            generalize hN : fresh st.gen o.dst 15 = N at h hmk hm1 hm2 hm3
            have hNu : m.used N = false := by rw [hR.used]; exact hm1
            have hqN : q ≠ N := fun e => by rw [e] at hqu; rw [hqu] at hNu; cases hNu
            obtain ⟨A, nn, cc, hus⟩ := hsl
            have hublk : ∀ b, Blk u b ↔ blkOf u = some b := fun b => by rw [hus]
            have huq : ∀ b, blkOf u = some b → Blk (m.loc q) b := fun b hb => Blk_prt hprt hb
            -- the memory meanwhile
            let D : Nat → Prop := fun b => Blk (m.loc q) b ∧ blkOf u ≠ some b
            let m1 : Mem := ⟨m.w, upd (upd m.nodes q none) N (some (.row ty' e' v)), upd m.used N true, upd m.loc N u, fun b => m.X b ∨ D b⟩
            have hm1n : ∀ q' x, m1.nodes q' = some x → (q' = N ∧ x = .row ty' e' v) ∨ (q' ≠ N ∧ q' ≠ q ∧ m.nodes q' = some x) := fun q' x hx => by
              by_cases h1 : q' = N
              · subst h1
                simp only [m1, upd_same, Option.some.injEq] at hx
                exact .inl ⟨rfl, hx.symm⟩
              · simp only [m1, upd_other _ _ h1] at hx
                by_cases h2 : q' = q
                · subst h2; simp [upd_same] at hx
                · rw [upd_other _ _ h2] at hx
                  exact .inr ⟨h1, h2, hx⟩
            have hown1 : ∀ b, m1.own b → m.own b := by
              rintro b ⟨q', x, hx, hb⟩
              rcases hm1n q' x hx with ⟨rfl, rfl⟩ | ⟨h1, h2, h3⟩
              · simp only [m1, upd_same] at hb
                exact ⟨q, _, hn', huq b ((hublk b).1 hb)⟩
              · simp only [m1, upd_other _ _ h1] at hb
                exact ⟨q', x, h3, hb⟩
            have hDown : ∀ b, D b → m.own b := fun b hb => ⟨q, _, hn', hb.1⟩
            have hle : m.le m1 := {
              keep := ⟨fun _ _ _ => rfl, fun b _ hb => by
                rcases hb with hb | hb | hb
                · exact .inl (hown1 b hb)
                · exact .inr hb
                · exact .inl (hDown b hb)⟩
              used := fun q' hq' => by
                by_cases h1 : q' = N
                · subst h1; simp [m1, upd_same]
                · simpa [m1, upd_other _ _ h1] using hq'
              loc := fun q' hq' => by
                have h1 : q' ≠ N := fun e => by subst e; rw [hNu] at hq'; cases hq'
                simp [m1, upd_other _ _ h1]
              node := fun q' x hq' hx => by
                rcases hm1n q' x hx with ⟨rfl, rfl⟩ | ⟨_, _, h3⟩
                · rw [hNu] at hq'; cases hq'
                · exact .inr ⟨x, h3, shape.refl x⟩ }
            have hapart : ∀ b, D b → ¬ m1.own b := by
              rintro b ⟨hb1, hb2⟩ ⟨q', x, hx, hb⟩
              rcases hm1n q' x hx with ⟨rfl, rfl⟩ | ⟨h1, h2, h3⟩
              · simp only [m1, upd_same] at hb
                exact hb2 ((hublk b).1 hb)
              · simp only [m1, upd_other _ _ h1] at hb
                exact h2 (hR.ok.inj q' q _ _ b h3 hn' hb hb1)
            let O1 : OX := ⟨fun b => m1.own b, fun b => m.X b ∨ D b, fun t' => if t' = t then some u else O0.fx t'⟩
            have hok1 : Ok m1 m.w O1 := {
              node := fun q' x hx => by
                rcases hm1n q' x hx with ⟨rfl, rfl⟩ | ⟨h1, h2, h3⟩
                · obtain ⟨ys, k1, k2⟩ := hpok
                  refine ⟨ys, ?_, k2.imp fun c x hc => hc.flat_any' hfe⟩
                  simp only [m1, upd_same]
                  exact k1
                · exact (hR.ok.node q' x h3).mono hle (hR.ok.used q' x h3) fun _ _ => rfl
              used := fun q' x hx => by
                rcases hm1n q' x hx with ⟨rfl, rfl⟩ | ⟨h1, h2, h3⟩
                · simp [m1, upd_same]
                · exact hle.used q' (hR.ok.used q' x h3)
              inj := fun q1 q2 x1 x2 b hx1 hx2 hb1 hb2 => by
                rcases hm1n q1 x1 hx1 with ⟨rfl, rfl⟩ | ⟨h1, h2, h3⟩ <;> rcases hm1n q2 x2 hx2 with ⟨rfl, rfl⟩ | ⟨h4, h5, h6⟩
                · rfl
                · simp only [m1, upd_same] at hb1
                  simp only [m1, upd_other _ _ h4] at hb2
                  exact absurd (hR.ok.inj q2 q _ _ b h6 hn' hb2 (huq b ((hublk b).1 hb1))) h5
                · simp only [m1, upd_same] at hb2
                  simp only [m1, upd_other _ _ h1] at hb1
                  exact absurd (hR.ok.inj q1 q _ _ b h3 hn' hb1 (huq b ((hublk b).1 hb2))) h2
                · simp only [m1, upd_other _ _ h1] at hb1
                  simp only [m1, upd_other _ _ h4] at hb2
                  exact hR.ok.inj q1 q2 _ _ b h3 h6 hb1 hb2
              frame := Frame0.refl _ _
              base := fun b hb => .inr hb
              keeps := rfl
              far := by
                rintro b (hb | hb)
                · exact ⟨Nat.lt_of_lt_of_le (hR.ok.far b hb).1 hR.ok.frame.size, fun ho => hR.ok.apart (hown1 b ho) hb⟩
                · exact ⟨(hR.ok.node q _ hn').blk_lt hb.1, hapart b hb⟩ }
            have hR1 : Rel { st1 with slots := upd st1.slots t (.root N) } a m1 m.w O1 n := {
              nodes := by show m1.nodes = st1.nodes; rw [hm2]; simp only [m1, hR.nodes]
              used := by show m1.used = st1.used; rw [hm3]; simp only [m1, hR.used]
              ok := hok1
              slot := fun t' => by
                show SRel m1 (upd st1.slots t (.root N) t') _
                by_cases ht : t' = t
                · subst ht
                  rw [upd_same, hu]
                  simp only [SRel, m1, upd_same]
                  exact ⟨trivial, ⟨A, nn, cc, hus⟩, fun _ _ _ _ => trivial⟩
                · rw [upd_other _ _ ht, hm4]
                  exact SRel.mono hle _ (hR.slot t')
              defers := hR.defers
              size := hR.size
              fixed := fun t' v' hv' => by
                by_cases ht : t' = t
                · subst ht
                  simp only [O1] at hv'
                  rw [if_pos trivial] at hv'
                  cases hv'; exact hu
                · simp only [O1, if_neg ht] at hv'
                  exact hR.fixed t' v' hv' }
            have hd1 : ∀ t', o.dst = some t' → t' < n ∧ O1.fx t' = none := fun t' ht' => ⟨(hd t' ht').1, by simp only [O1, if_neg (hdt t' ht')]; exact (hd t' ht').2⟩
            have hback : ∀ b, m1.own b → w0.heap.size ≤ b ∨ O0 b := fun b hb => hR.ok.base b (hown1 b hb)
            have hG1 : ∀ w', Frame0 m.w O1 w' → G w' := fun w' hf => hG w' (hR.ok.frame.trans' hf hback)
            obtain ⟨st', q1, Z, q2, q3, q4⟩ := callH_sound hF hG1 hR1 hd1 (STup_append (STup_eval hR1 args) (STup.mono' hle hex)) hrun0 h
            split at q1
            · rename_i st'' hcl
              refine ⟨st'', q1, Z, fun next Q hnx => q2 next Q fun a' m' hR' hfr hrw hlc => ?_, q3, fun b hb => ?_⟩
              · -- put back
                unfold closeS at hcl
                split at hcl
                · rename_i n1 hs1 hr1 hu1
                  split at hcl
                  · rename_i ty3 e3 v3 hn3
                    split at hcl
                    · rename_i hty3
                      split at hcl
                      · rename_i hjr
                        split at hcl
                        · rename_i z hz
                          simp only [Option.some.injEq] at hcl
                          subst hty3
                          have hlq : m'.loc q = m.loc q := (hlc q (hle.used q hqu)).2.trans (hle.loc q hqu)
                          have huq' : m'.used q = true := (hlc q (hle.used q hqu)).1
                          have htu : a'.tmps.getD t undef = u := hR'.fixed t u (by simp [O1])
                          have hsl := hR'.slot t
                          rw [hs1, htu] at hsl
                          simp only [SRel] at hsl
                          have hn3' : m'.nodes n1 = some (.row ty3 e3 v3) := by rw [hR'.nodes]; exact hn3
                          have hun1 : u = m'.loc n1 := hsl.2.2 _ _ _ hn3'
                          have hrow : NodeRel m' n1 (.row ty3 e3 v3) := hR'.ok.node n1 _ hn3'
                          obtain ⟨ys, k1, k2⟩ := hrow
                          rw [← hun1] at k1
                          have hn1q : n1 ≠ q := fun e => by rw [e] at hn3; rw [hr1] at hn3; cases hn3
                          have hfrm : ∀ b, b < m.w.heap.size → ¬ m1.own b → m'.w.heap[b]? = m.w.heap[b]? := fun b hb hnb => hR'.ok.frame.block b hb hnb
                          have hDX : ∀ b, D b → m'.X b := fun b hb => by rw [hR'.ok.keeps]; exact .inr hb
                          have hXX : ∀ b, m.X b → m'.X b := fun b hb => by rw [hR'.ok.keeps]; exact .inl hb
                          -- the deep row
                          have hD1 : DeepR m'.w (fun _ => True) ty (.struct a2) ts (m.loc q) l (fun i' j' => i' = i.toNat ∧ j' = j) := by
                            refine DeepR.keep (w := m.w) (O := fun _ => True) ⟨fun b _ h => absurd trivial h, fun _ _ _ => trivial⟩ (fun _ _ h => h.elim) ?_ ?_ hD.flat_any
                            · intro b u0 hh hb
                              have hBq : Blk (m.loc q) b := by
                                obtain ⟨A', c', hA'⟩ := hD.hdr
                                rw [hA'] at hh; cases hh
                                exact Blk_hdr hA' (by simp) hb
                              have hne : blkOf u ≠ some b := fun hb' => by
                                obtain ⟨u1, xs1, L1, g1, g2, g3, g4, g5, g6, g7⟩ := hD
                                rw [g1] at hh hprt
                                rw [hdr_mk] at hh; cases hh
                                rw [prt_mk] at hprt
                                cases hL : (L1.map (·.2))[i.toNat]? with
                                | none => rw [hL] at hprt; cases hprt
                                | some us =>
                                  rw [hL] at hprt
                                  exact g7.out i.toNat j us u b hL hprt hb hb'
                              exact hfrm b ((hR.ok.node q _ hn').blk_lt hBq) (hapart b ⟨hBq, hne⟩)
                            · intro i' j' u' b hh hb hnot
                              have hBq : Blk (m.loc q) b := Blk_prt hh hb
                              have hne : blkOf u ≠ some b := fun hb' => by
                                obtain ⟨u1, xs1, L1, g1, g2, g3, g4, g5, g6, g7⟩ := hD
                                rw [g1, prt_mk] at hh hprt
                                cases hL : (L1.map (·.2))[i.toNat]? with
                                | none => rw [hL] at hprt; cases hprt
                                | some us =>
                                  cases hL' : (L1.map (·.2))[i']? with
                                  | none => rw [hL'] at hh; cases hh
                                  | some us' =>
                                    rw [hL] at hprt
                                    rw [hL'] at hh
                                    exact hnot (g7.inn i' j' i.toNat j us' us u' u b hL' hh hL hprt hb hb')
                              exact hfrm b ((hR.ok.node q _ hn').blk_lt hBq) (hapart b ⟨hBq, hne⟩)
                          have hzk : e3 = e' := by
                            obtain ⟨o1, ho1⟩ := updP_kind (a := a2) hz
                            obtain ⟨cs, hcs⟩ : ∃ c, DE m.w m.O (.struct a2) c (rdT (.struct a2) l i, (fun us => us) []) ∨ True := ⟨[], .inr trivial⟩
                            obtain ⟨_, _, L1, _, _, g3, _, g5, _, _⟩ := hD
                            have hil' : i.toNat < L1.length := by rw [g3, List.length_map] at hil; omega
                            have hg := Rows.get (DE.len (.struct a2)) i.toNat g5 hil'
                            have hr : rdT (.struct a2) l i = L1[i.toNat].1 := by
                              unfold rdT
                              rw [g3, List.getD_eq_getElem?_getD, List.getElem?_map, List.getElem?_eq_getElem hil']; rfl
                            rcases DS.field ha (show DS m.w m.O a2 _ L1[i.toNat].1 L1[i.toNat].2 from hg) ho1 with ⟨e4, _, _, _, vs, g6, _, _, _, g10⟩ | ⟨g6, _⟩
                            · cases g6
                              have hpart' : (partsP a2 L1[i.toNat].1)[j]? = some ⟨e', v⟩ := by rw [← hr]; exact hpart
                              rw [hjr] at hpart'
                              have := hpart'.symm.trans g10
                              cases this; rfl
                            · exact absurd rfl (g6 _)
                          subst hzk
                          have hD2 : DeepR m'.w (fun _ => True) ty (.struct a2) ts (m.loc q) (l.set i.toNat z) (fun _ _ => False) := deep_setPart hD1 hjr hprt hty hz ⟨ys, k1, k2.imp fun c x hc => hc.flat_any' hfe⟩
                          let m2 : Mem := ⟨m'.w, upd (upd m'.nodes n1 none) q (some (.deep ty (.struct a2) ts (l.set i.toNat z))), m'.used, m'.loc, m.X⟩
                          have hm2n : ∀ q' x, m2.nodes q' = some x → (q' = q ∧ x = .deep ty (.struct a2) ts (l.set i.toNat z)) ∨ (q' ≠ q ∧ q' ≠ n1 ∧ m'.nodes q' = some x) := fun q' x hx => by
                            by_cases h1 : q' = q
                            · subst h1
                              simp only [m2, upd_same, Option.some.injEq] at hx
                              exact .inl ⟨rfl, hx.symm⟩
                            · simp only [m2, upd_other _ _ h1] at hx
                              by_cases h2 : q' = n1
                              · subst h2; simp [upd_same] at hx
                              · rw [upd_other _ _ h2] at hx
                                exact .inr ⟨h1, h2, hx⟩
                          have hqb : ∀ b, Blk (m.loc q) b → (m'.own b ∧ Blk (m'.loc n1) b) ∨ D b := fun b hb => by
                            by_cases hbu : blkOf u = some b
                            · have : Blk (m'.loc n1) b := by rw [← hun1]; exact (hublk b).2 hbu
                              exact .inl ⟨⟨n1, _, hn3', this⟩, this⟩
                            · exact .inr ⟨hb, hbu⟩
                          have hO2 : ∀ b, m2.O b → m'.O b := by
                            rintro b (⟨q', x, hx, hb⟩ | hb)
                            · rcases hm2n q' x hx with ⟨rfl, rfl⟩ | ⟨h1, h2, h3⟩
                              · have hb : Blk (m'.loc q') b := hb
                                rw [hlq] at hb
                                rcases hqb b hb with h | h
                                · exact .inl h.1
                                · exact .inr (hDX b h)
                              · exact .inl ⟨q', x, h3, hb⟩
                            · exact .inr (hXX b hb)
                          have hle2 : m'.le m2 := {
                            keep := ⟨fun _ _ _ => rfl, fun b _ hb => hO2 b hb⟩
                            used := fun _ h => h
                            loc := fun _ _ => rfl
                            node := fun q' x _ hx => by
                              rcases hm2n q' x hx with ⟨rfl, rfl⟩ | ⟨_, _, h3⟩
                              · exact .inl rfl
                              · exact .inr ⟨x, h3, shape.refl x⟩ }
                          have hfr0 : Frame0 w0 O0 m'.w := hR.ok.frame.trans' hR'.ok.frame hback
                          have hok2 : Ok m2 w0 O0 := {
                            node := fun q' x hx => by
                              rcases hm2n q' x hx with ⟨rfl, rfl⟩ | ⟨h1, h2, h3⟩
                              · show DeepR m'.w m2.O _ _ _ (m'.loc q') _ _
                                rw [hlq]; exact hD2.flat_any
                              · exact (hR'.ok.node q' x h3).mono hle2 (hR'.ok.used q' x h3) fun _ _ => rfl
                            used := fun q' x hx => by
                              rcases hm2n q' x hx with ⟨rfl, rfl⟩ | ⟨h1, h2, h3⟩
                              · exact huq'
                              · exact hR'.ok.used q' x h3
                            inj := fun qa qb x1 x2 b hx1 hx2 hb1 hb2 => by
                              have cross : ∀ q' x, q' ≠ n1 → m'.nodes q' = some x → Blk (m'.loc q') b → Blk (m'.loc q) b → False := fun q' x g1 g2 g3 g4 => by
                                rw [hlq] at g4
                                rcases hqb b g4 with ⟨_, h⟩ | h
                                · exact g1 (hR'.ok.inj q' n1 _ _ b g2 hn3' g3 h)
                                · exact hR'.ok.apart ⟨q', x, g2, g3⟩ (hDX b h)
                              rcases hm2n qa x1 hx1 with ⟨rfl, rfl⟩ | ⟨h1, h2, h3⟩ <;> rcases hm2n qb x2 hx2 with ⟨rfl, rfl⟩ | ⟨h4, h5, h6⟩
                              · rfl
                              · exact (cross qb x2 h5 h6 hb2 hb1).elim
                              · exact (cross qa x1 h2 h3 hb1 hb2).elim
                              · exact hR'.ok.inj qa qb _ _ b h3 h6 hb1 hb2
                            frame := hfr0
                            base := by
                              rintro b ⟨q', x, hx, hb⟩
                              rcases hm2n q' x hx with ⟨rfl, rfl⟩ | ⟨h1, h2, h3⟩
                              · have hb : Blk (m'.loc q') b := hb
                                rw [hlq] at hb
                                exact hR.ok.base b ⟨q', _, hn', hb⟩
                              · rcases hR'.ok.base b ⟨q', x, h3, hb⟩ with h | h
                                · exact .inl (Nat.le_trans hR.ok.frame.size h)
                                · exact hback b h
                            keeps := hR.ok.keeps
                            far := fun b hb => hR.ok.far b hb }
                          have hR2 : Rel st'' a' m2 w0 O0 n := by
                            subst hcl
                            refine ⟨?_, hR'.used, hok2, fun t' => ?_, hR'.defers, hR'.size, fun t' v' hv' => ?_⟩
                            · simp only [m2, hR'.nodes]
                            · show SRel m2 (upd st'.slots t (.part q i f' j) t') _
                              by_cases ht : t' = t
                              · subst ht
                                rw [upd_same, htu]
                                simp only [SRel]
                                exact ⟨huq', h0, by show prt (m'.loc q) _ _ = _; rw [hlq]; exact hprt, A, nn, cc, hus⟩
                              · rw [upd_other _ _ ht]
                                exact SRel.mono hle2 _ (hR'.slot t')
                            · by_cases ht : t' = t
                              · subst ht
                                have := hR.fixed t' v' hv'
                                rw [hu] at this
                                rw [htu, this]
                              · exact hR'.fixed t' v' (by simp only [O1, if_neg ht]; exact hv')
                          refine hnx a' m2 hR2 hfr ?_
                          rintro b ⟨q', x, hx, hx0, hb⟩
                          rcases hm2n q' x hx with ⟨rfl, rfl⟩ | ⟨h1, h2, h3⟩
                          · have hb : Blk (m'.loc q') b := hb
                            rw [hlq] at hb
                            exact .inl ⟨q', _, hn', rfl, hb⟩
                          · rcases hrw b ⟨q', x, h3, hx0, hb⟩ with ⟨q5, x5, g1, g2, g3⟩ | h
                            · rcases hm1n q5 x5 g1 with ⟨rfl, rfl⟩ | ⟨g4, g5, g6⟩
                              · simp only [m1, upd_same] at g3
                                exact .inl ⟨q, _, hn', rfl, huq b ((hublk b).1 g3)⟩
                              · simp only [m1, upd_other _ _ g4] at g3
                                exact .inl ⟨q5, x5, g6, g2, g3⟩
                            · exact .inr h
                        · cases hcl
                      · cases hcl
                    · cases hcl
                  · cases hcl
                · cases hcl
              · obtain ⟨q5, x5, g1, g2, g3⟩ := q4 b hb
                rcases hm1n q5 x5 g1 with ⟨rfl, rfl⟩ | ⟨g4, g5, g6⟩
                · simp only [m1, upd_same] at g3
                  exact ⟨q, _, hn', rfl, huq b ((hublk b).1 g3)⟩
                · simp only [m1, upd_other _ _ g4] at g3
                  exact ⟨q5, x5, g6, g2, g3⟩
            · cases q1
          · cases h
        · cases h
      · cases h
  · cases h
theorem closC_sound : ∀ {c : Kind} {v : c.T} {l : List Slot} {caps : List Value}, closC c v = some l → Cells m.w m.O c caps v → STup m l caps
  | .unit, v, l, caps, h, hc => by simp only [closC, Option.some.injEq] at h; subst h; simp only [STup]; exact hc
  | .pair x y, v, l, caps, h, hc => by
    simp only [closC] at h
    split at h
    · rename_i l' hl
      cases hb : (Nat.beq (width x) 1 && !aggB x) with
      | false => rw [hb] at h; cases h
      | true =>
        rw [hb, cond_true] at h
        cases h
        simp only [Bool.and_eq_true, Bool.not_eq_true'] at hb
        have hw : width x = 1 := Nat.eq_of_beq_eq_true hb.1
        obtain ⟨c1, c2, rfl, h1, h2⟩ := hc
        have hlen := h1.length
        rw [hw] at hlen
        obtain ⟨u, rfl⟩ := List.length_eq_one_iff.1 hlen
        simp only [STup]
        refine ⟨u, c2, rfl, SRel.valI ?_, closC_sound hl h2⟩
        unfold Reg
        rw [if_neg (by simp [hb.2])]
        exact ⟨h1.one u (by simp), h1⟩
    · cases h
  | .int _, v, l, caps, h, hc | .bool, v, l, caps, h, hc | .str, v, l, caps, h, hc | .struct _, v, l, caps, h, hc | .slice _, v, l, caps, h, hc | .arr _ _, v, l, caps, h, hc | .clo _ _, v, l, caps, h, hc | .ref _, v, l, caps, h, hc | .mpk _ _, v, l, caps, h, hc | .mbx _ _, v, l, caps, h, hc | .recB _ _ _, v, l, caps, h, hc | .err, v, l, caps, h, hc | .fnk, v, l, caps, h, hc => by simp [closC] at h
theorem selfBox_sound {nodes : Nat → Option Node} {g : Nat} {x : Slot} {u : Value} (h : SRel m x u) : SRel m (selfBox nodes g x) u := by
  unfold selfBox
  split
  · split
    · rename_i b _ _ g' l rs _
      cases Nat.beq g' g with
      | true => rw [cond_true]; simp only [SRel] at h ⊢; exact h
      | false => rw [cond_false]; exact h
    · exact h
  · exact h
theorem selfBoxes_sound {nodes : Nat → Option Node} {g : Nat} : ∀ {l : List Slot} {us : List Value}, STup m l us → STup m (l.map (selfBox nodes g)) us
  | [], us, h => by simpa only [List.map_nil] using h
  | x :: l, us, h => by
    simp only [STup, List.map_cons] at h ⊢
    obtain ⟨u, us', h1, h2, h3⟩ := h
    exact ⟨u, us', h1, selfBox_sound h2, selfBoxes_sound h3⟩
theorem hard_call (hF : FnsOK P G cx) (hG : ∀ w', Frame0 w0 O0 w' → G w') (hR : Rel st a m w0 O0 n) (hd : ∀ t, o.dst = some t → t < n ∧ O0.fx t = none) {x : Operand} {args : Array Operand} {ts : Array TypeId}
    (ho : o.op = .call { callee := .value x, args := args, argTypes := ts }) (hpf : pfOf cx x = none) (h : hardC cx st o K = some r) : ∃ st', K st' = some r ∧ ∃ Z, HOpR P o a m st' w0 O0 n Z ∧ (growOp cx o.op = true → ∀ b, ¬ Z b) ∧ ∀ b, Z b → RowB m b := by
  simp only [hardC, ho, hpf] at h
  have hx := evalS_sound hR x
  split at h
  · rename_i f ex hcal
    unfold calleeS at hcal
    split at hcal
    · rename_i g c v he
      split at hcal
      · rename_i l hl
        simp only [Option.some.injEq, Prod.mk.injEq] at hcal
        obtain ⟨rfl, rfl⟩ := hcal
        rw [he] at hx
        simp only [SRel] at hx
        unfold Reg at hx
        rw [if_neg (by simp [aggB])] at hx
        obtain ⟨caps, h1, h2⟩ := hx.2
        have hu : a.eval x = .func (.func g) #[] caps.toArray := by simpa using h1
        have hfn : growOp cx o.op = true → growFn cx g = true := by
          intro hgr
          rw [ho] at hgr
          cases x with
          | func f' =>
            simp only [evalS, Slot.val.injEq, Kind.clo.injEq] at he
            rw [← he.1.1]
            simp only [growOp, Bool.and_eq_true] at hgr
            exact hgr.2
          | _ => cases hgr
        have hmain := callP_sound hF hG hR hd (closC_sound hl h2) (fun hcb => ?_) h
        · obtain ⟨st', q1, Z, q2, q3⟩ := hmain
          exact ⟨st', q1, Z, q2, fun hgr => q3.1 (hfn hgr), q3.2⟩
        have hc := run_callFunc hcb (args.map a.eval ++ caps.toArray) m.w
        have he2 : (List.map a.eval args.toList ++ caps).toArray = args.map a.eval ++ caps.toArray := by apply Array.toList_inj.1; simp
        rw [he2]
        simp [execOp, ho, resolve, hu, Deferred.ofValue, invoke, hc]
      · cases hcal
    · rename_i g l rs he
      simp only [Option.some.injEq, Prod.mk.injEq] at hcal
      obtain ⟨rfl, rfl⟩ := hcal
      rw [he] at hx
      simp only [SRel] at hx
      obtain ⟨caps, hu, h2⟩ := hx
      have hfn : growOp cx o.op = true → growFn cx g = true := by
        intro hgr
        rw [ho] at hgr
        cases x with
        | func f' => simp [evalS] at he
        | _ => cases hgr
      have hmain := callP_sound hF hG hR hd (selfBoxes_sound (nodes := st.nodes) (g := g) h2) (fun hcb => ?_) h
      · obtain ⟨st', q1, Z, q2, q3⟩ := hmain
        exact ⟨st', q1, Z, q2, fun hgr => q3.1 (hfn hgr), q3.2⟩
      have hc := run_callFunc hcb (args.map a.eval ++ caps.toArray) m.w
      have he2 : (List.map a.eval args.toList ++ caps).toArray = args.map a.eval ++ caps.toArray := by apply Array.toList_inj.1; simp
      rw [he2]
      simp [execOp, ho, resolve, hu, Deferred.ofValue, invoke, hc]
    · cases hcal
  · cases h
end
end Go.Fm
