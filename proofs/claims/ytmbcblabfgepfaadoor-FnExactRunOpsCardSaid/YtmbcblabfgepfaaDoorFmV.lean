/- The functional machine: codes. -/
import Derived.Test.YtmbcblabfgepfaaDoorFmW
set_option autoImplicit true
set_option linter.unusedVariables false
set_option linter.unusedSimpArgs false
set_option linter.unusedSectionVars false
namespace Go.Fm
variable [Strict]

section
variable {P : Program} {cx : Ctx} {st st' : St} {a : Act} {m m' : Mem} {w0 : World} {O0 : OX} {n : Nat} {R : Type} {r : R} {G : World → Prop}

def codeOK (cx : Ctx) (n : Nat) : Code → Bool
  | .region _ ops d => regionOK cx n ops d
  | .seq a b => codeOK cx n a && codeOK cx n b
  | .cond _ a b => codeOK cx n a && codeOK cx n b
  | .block _ a => codeOK cx n a
  | .loop a => codeOK cx n a
  | _ => true
def regs : Code → List Nat
  | .region m _ _ => [m]
  | .seq a b => regs a ++ regs b
  | .cond _ a b => regs a ++ regs b
  | .block _ a => regs a
  | .loop a => regs a
  | _ => []
theorem hasR_mem {k : Nat} : ∀ (c : Code), hasR k c = true ↔ k ∈ regs c
  | .region j _ _ => by
    simp only [hasR, regs, List.mem_singleton]
    exact ⟨fun h => (Nat.eq_of_beq_eq_true h).symm, fun h => by subst h; exact Nat.beq_refl _⟩
  | .seq a b => by simp [hasR, regs, hasR_mem a, hasR_mem b]
  | .cond _ a b => by simp [hasR, regs, hasR_mem a, hasR_mem b]
  | .block _ a => by simpa [hasR, regs] using hasR_mem a
  | .loop a => by simpa [hasR, regs] using hasR_mem a
  | .skip | .rangeFunc .. | .exit _ | .scope _ | .label _ | .goto _ | .ret | .refuse _ => by simp [hasR, regs]

def toExit : Ext → Exit | .norm => .normal | .exit n => .exit n | .ret => .ret

/-- from a loop's next round on -/
def inLoopS (P : Program) (c : Code) (Q : Exit → Act → World → Prop) (a : Act) (w : World) : Prop :=
  ∀ (b : Frame) (k : List Item) (cs : List Frame), ∃ e a' w', Q e a' w' ∧ Arrives P (lone (b.at a (.inLoop c :: k)) cs w) b k cs e a' w'
theorem round_arrives {c : Code} {Q : Exit → Act → World → Prop} {w : World} (h : c.wp P (Exit.then (inLoopS P c Q) Q) a w) (b : Frame) (k : List Item) (cs : List Frame) :
    ∃ e a' w', Q e a' w' ∧ Arrives P (lone (b.at a (.code c :: .inLoop c :: k)) cs w) b k cs e a' w' := by
  obtain ⟨e, a₁, w₁, hq, harr⟩ := h b (.inLoop c :: k) cs
  cases e with
  | normal =>
    obtain ⟨e₂, a₂, w₂, hq₂, harr₂⟩ := hq b k cs
    exact ⟨e₂, a₂, w₂, hq₂, .of_steps harr harr₂⟩
  | exit id => exact ⟨_, a₁, w₁, hq, .pass (x := .inLoop c) rfl (fun _ _ => .inl (by simp)) harr⟩
  | goto l => exact ⟨_, a₁, w₁, hq, .pass (x := .inLoop c) rfl (fun _ _ => .inl (by simp)) harr⟩
  | ret => exact ⟨_, a₁, w₁, hq, .pass (x := .inLoop c) rfl (fun _ _ => .inl (by simp)) harr⟩
  | panic ch => exact ⟨_, a₁, w₁, hq, .pass (x := .inLoop c) rfl (fun _ _ => .inl (by simp)) harr⟩
  | outgrown => exact ⟨_, a₁, w₁, hq, .pass (x := .inLoop c) rfl (fun _ _ => .inl (by simp)) harr⟩
theorem loop_of {c : Code} {Q : Exit → Act → World → Prop} {w : World} (h : c.wp P (Exit.then (inLoopS P c Q) Q) a w) : (Code.loop c).wp P Q a w := fun b k cs => by
  obtain ⟨e, a', w', hq, harr⟩ := round_arrives h b k cs
  exact ⟨e, a', w', hq, .of_steps (.one step_loop) harr⟩
theorem inLoop_of {c : Code} {Q : Exit → Act → World → Prop} {w : World} (h : c.wp P (Exit.then (inLoopS P c Q) Q) a w) : inLoopS P c Q a w := fun b k cs => by
  obtain ⟨e, a', w', hq, harr⟩ := round_arrives h b k cs
  exact ⟨e, a', w', hq, .of_steps (.one step_inLoop) harr⟩

/-- what is asked at a place, that what stands behind it goes well -/
def posS (P : Program) (k : Nat) : Code → (Exit → Act → World → Prop) → Act → World → Prop
  | .region m ops d, Q => (Code.region m ops d).wp P Q
  | .seq a b, Q => if hasR k a = true then posS P k a (Exit.then (b.wp P Q) Q) else posS P k b Q
  | .cond _ a b, Q => if hasR k a = true then posS P k a Q else posS P k b Q
  | .block id a, Q => posS P k a (Exit.inBlock id Q)
  | .loop a, Q => posS P k a (Exit.then (inLoopS P a Q) Q)
  | _, _ => fun _ _ => True

variable {pl : List Nat} {L : Nat → List LM} {H : (n : Nat) → LT (L n) → Option R}
/-- the places go well -/
def PlacesOK (P : Program) (pl : List Nat) (L : Nat → List LM) (H : (n : Nat) → LT (L n) → Option R) (r : R) (w0 : World) (O0 : OX) (n : Nat) (c : Code) (Q : Exit → Act → World → Prop) : Prop :=
  ∀ k v, hasR k c = true → elemB k pl = true → H k v = some r → ∀ a m, Rel (encV (L k) v) a m w0 O0 n → posS P k c Q a m.w

theorem into_some {k : Nat} {run : Unit → Option R} (h : into pl L H k st run = some r) : (∃ v, elemB k pl = true ∧ decV (L k) st = some v ∧ H k v = some r) ∨ run () = some r := by
  unfold into at h
  cases hp : elemB k pl with
  | true =>
    rw [hp, cond_true] at h
    split at h
    · rename_i v hv; exact .inl ⟨v, rfl, hv, h⟩
    · cases h
  | false => rw [hp, cond_false] at h; exact .inr h
theorem nodup_seq {a b : Code} (h : (regs a ++ regs b).Nodup) {k : Nat} (hk : hasR k b = true) : hasR k a = false := by
  obtain ⟨_, _, h3⟩ := List.nodup_append.1 h
  cases ha : hasR k a with
  | false => rfl
  | true => exact absurd rfl (h3 k ((hasR_mem a).1 ha) k ((hasR_mem b).1 hk))

theorem headOf_sound : ∀ (c : Code) (Q : Exit → Act → World → Prop) (st : St) (a : Act) (m : Mem), (regs c).Nodup → PlacesOK P pl L H r w0 O0 n c Q → headOf pl L H c st = some r → Rel st a m w0 O0 n → c.wp P Q a m.w
  | .region k ops d, Q, st, a, m, hnd, hp, h, hR => by
    simp only [headOf] at h
    rcases into_some h with ⟨v, h1, h2, h3⟩ | h1
    · obtain ⟨m', hw, hR'⟩ := decV_sound hR h2
      have := hp k v (Nat.beq_refl k) h1 h3 a m' hR'
      rw [hw] at this; exact this
    · cases h1
  | .seq x y, Q, st, a, m, hnd, hp, h, hR => by
    simp only [headOf] at h
    refine wp_seq (headOf_sound x _ st a m (List.nodup_append.1 hnd).1 (fun k v hk hl hv a m hR => ?_) h hR)
    have := hp k v (by simp [hasR, hk]) hl hv a m hR
    simpa only [posS, hk, if_true] using this
  | .block id x, Q, st, a, m, hnd, hp, h, hR => by
    simp only [headOf] at h
    exact wp_block (headOf_sound x _ st a m hnd (fun k v hk hl hv a m hR => hp k v hk hl hv a m hR) h hR)
  | .skip, Q, st, a, m, hnd, hp, h, hR | .cond _ _ _, Q, st, a, m, hnd, hp, h, hR | .loop _, Q, st, a, m, hnd, hp, h, hR | .rangeFunc .., Q, st, a, m, hnd, hp, h, hR | .exit _, Q, st, a, m, hnd, hp, h, hR
  | .scope _, Q, st, a, m, hnd, hp, h, hR | .label _, Q, st, a, m, hnd, hp, h, hR | .goto _, Q, st, a, m, hnd, hp, h, hR | .ret, Q, st, a, m, hnd, hp, h, hR | .refuse _, Q, st, a, m, hnd, hp, h, hR => by
    simp [headOf] at h

theorem PlacesOK.loop {x : Code} {Q : Exit → Act → World → Prop} (hp : PlacesOK P pl L H r w0 O0 n (.loop x) Q) : PlacesOK P pl L H r w0 O0 n x (Exit.then (inLoopS P x Q) Q) := fun k v hk hl hv a m hR => hp k v hk hl hv a m hR

theorem codeS_sound (hm : P.follows .mixedOrders = true) (hT : TypesOK P cx) (hF : FnsOK P G cx) (hG : ∀ w', Frame0 w0 O0 w' → G w') (hfx : ∀ t v, O0.fx t = some v → elemB t cx.fx = true) : ∀ (c : Code) (Q : Exit → Act → World → Prop) (K : Ext → St → Option R) (st : St) (a : Act) (m : Mem),
    codeOK cx n c = true → (regs c).Nodup → (∀ e st a m, K e st = some r → Rel st a m w0 O0 n → Q (toExit e) a m.w) → PlacesOK P pl L H r w0 O0 n c Q → codeS cx pl L H c K st = some r → Rel st a m w0 O0 n → c.wp P Q a m.w
  | .skip, Q, K, st, a, m, hc, hnd, hK, hp, h, hR => wp_skip (hK .norm st a m h hR)
  | .label _, Q, K, st, a, m, hc, hnd, hK, hp, h, hR => wp_label (hK .norm st a m h hR)
  | .exit k, Q, K, st, a, m, hc, hnd, hK, hp, h, hR => wp_exit (hK (.exit k) st a m h hR)
  | .ret, Q, K, st, a, m, hc, hnd, hK, hp, h, hR => wp_ret (hK .ret st a m h hR)
  | .region k ops d, Q, K, st, a, m, hc, hnd, hK, hp, h, hR => by
    simp only [codeS] at h
    rcases into_some h with ⟨v, h1, h2, h3⟩ | h1
    · obtain ⟨m', hw, hR'⟩ := decV_sound hR h2
      have := hp k v (Nat.beq_refl k) h1 h3 a m' hR'
      rw [hw] at this; exact this
    · exact region_sound hm hT hF hG hfx hc (fun st' a' m' hR' hk => hK .norm st' a' m' hk hR') (hR.gen _) h1
  | .seq x y, Q, K, st, a, m, hc, hnd, hK, hp, h, hR => by
    simp only [codeS] at h
    simp only [codeOK, Bool.and_eq_true] at hc
    obtain ⟨hn1, hn2, _⟩ := List.nodup_append.1 hnd
    refine wp_seq (codeS_sound hm hT hF hG hfx x _ _ st a m hc.1 hn1 ?_ (fun k v hk hl hv a m hR => ?_) h hR)
    · intro e st a m hk hR
      cases e with
      | norm =>
        refine codeS_sound hm hT hF hG hfx y Q K st a m hc.2 hn2 hK (fun k v hk' hl hv a m hR => ?_) hk hR
        have := hp k v (by simp [hasR, hk']) hl hv a m hR
        simpa only [posS, nodup_seq hnd hk', Bool.false_eq_true, if_false] using this
      | exit j => exact hK (.exit j) st a m hk hR
      | ret => exact hK .ret st a m hk hR
    · have := hp k v (by simp [hasR, hk]) hl hv a m hR
      simpa only [posS, hk, if_true] using this
  | .cond c x y, Q, K, st, a, m, hc, hnd, hK, hp, h, hR => by
    simp only [codeS] at h
    simp only [codeOK, Bool.and_eq_true] at hc
    obtain ⟨hn1, hn2, _⟩ := List.nodup_append.1 hnd
    rcases split_some (evalS_sound hR c) h with ⟨h1, h2⟩ | ⟨h1, h2⟩
    · refine wp_cond_true h1 (codeS_sound hm hT hF hG hfx x Q K st a m hc.1 hn1 hK (fun k v hk hl hv a m hR => ?_) h2 hR)
      have := hp k v (by simp [hasR, hk]) hl hv a m hR
      simpa only [posS, hk, if_true] using this
    · refine wp_cond_false h1 (codeS_sound hm hT hF hG hfx y Q K st a m hc.2 hn2 hK (fun k v hk hl hv a m hR => ?_) h2 hR)
      have := hp k v (by simp [hasR, hk]) hl hv a m hR
      simpa only [posS, nodup_seq hnd hk, Bool.false_eq_true, if_false] using this
  | .block id x, Q, K, st, a, m, hc, hnd, hK, hp, h, hR => by
    simp only [codeS] at h
    refine wp_block (codeS_sound hm hT hF hG hfx x _ _ st a m hc hnd ?_ (fun k v hk hl hv a m hR => hp k v hk hl hv a m hR) h hR)
    intro e st a m hk hR
    cases e with
    | norm => exact hK .norm st a m hk hR
    | ret => exact hK .ret st a m hk hR
    | exit j =>
      simp only [toExit, Exit.inBlock]
      cases hb : Nat.beq j id with
      | true =>
        rw [if_pos (Nat.eq_of_beq_eq_true hb)]
        simp only [hb, cond_true] at hk
        exact hK .norm st a m hk hR
      | false =>
        rw [if_neg (fun e => by rw [e, Nat.beq_refl] at hb; cases hb)]
        simp only [hb, cond_false] at hk
        exact hK (.exit j) st a m hk hR
  | .loop x, Q, K, st, a, m, hc, hnd, hK, hp, h, hR => by
    simp only [codeS] at h
    exact loop_of (headOf_sound x _ st a m hnd hp.loop h hR)
  | .rangeFunc .., Q, K, st, a, m, hc, hnd, hK, hp, h, hR | .scope _, Q, K, st, a, m, hc, hnd, hK, hp, h, hR | .goto _, Q, K, st, a, m, hc, hnd, hK, hp, h, hR | .refuse _, Q, K, st, a, m, hc, hnd, hK, hp, h, hR => by
    simp [codeS] at h

theorem atS_sound (hm : P.follows .mixedOrders = true) (hT : TypesOK P cx) (hF : FnsOK P G cx) (hG : ∀ w', Frame0 w0 O0 w' → G w') (hfx : ∀ t v, O0.fx t = some v → elemB t cx.fx = true) {k : Nat} {v : LT (L k)} : ∀ (c : Code) (Q : Exit → Act → World → Prop) (K : Ext → St → Option R) (f : LT (L k) → Option R) (a : Act) (m : Mem),
    codeOK cx n c = true → (regs c).Nodup → (∀ e st a m, K e st = some r → Rel st a m w0 O0 n → Q (toExit e) a m.w) → PlacesOK P pl L H r w0 O0 n c Q → atS cx pl L H k c K = some f → f v = some r → Rel (encV (L k) v) a m w0 O0 n → posS P k c Q a m.w
  | .region j ops d, Q, K, f, a, m, hc, hnd, hK, hp, h, hv, hR => by
    simp only [atS] at h
    cases hb : Nat.beq j k with
    | false => rw [hb] at h; cases h
    | true =>
      rw [hb, cond_true] at h
      cases h
      exact region_sound hm hT hF hG hfx hc (fun st' a' m' hR' hk => hK .norm st' a' m' hk hR') hR hv
  | .seq x y, Q, K, f, a, m, hc, hnd, hK, hp, h, hv, hR => by
    simp only [atS] at h
    simp only [codeOK, Bool.and_eq_true] at hc
    obtain ⟨hn1, hn2, _⟩ := List.nodup_append.1 hnd
    have hpy : PlacesOK P pl L H r w0 O0 n y Q := fun k v hk' hl hv a m hR => by
      have := hp k v (by simp [hasR, hk']) hl hv a m hR
      simpa only [posS, nodup_seq hnd hk', Bool.false_eq_true, if_false] using this
    cases hx : hasR k x with
    | true =>
      rw [hx, cond_true] at h
      simp only [posS, hx, if_true]
      refine atS_sound hm hT hF hG hfx x _ _ f a m hc.1 hn1 ?_ (fun k v hk hl hv a m hR => ?_) h hv hR
      · intro e st a m hk hR
        cases e with
        | norm => exact codeS_sound hm hT hF hG hfx y Q K st a m hc.2 hn2 hK hpy hk hR
        | exit j => exact hK (.exit j) st a m hk hR
        | ret => exact hK .ret st a m hk hR
      · have := hp k v (by simp [hasR, hk]) hl hv a m hR
        simpa only [posS, hk, if_true] using this
    | false =>
      rw [hx, cond_false] at h
      simp only [posS, hx, Bool.false_eq_true, if_false]
      exact atS_sound hm hT hF hG hfx y Q K f a m hc.2 hn2 hK hpy h hv hR
  | .cond c x y, Q, K, f, a, m, hc, hnd, hK, hp, h, hv, hR => by
    simp only [atS] at h
    simp only [codeOK, Bool.and_eq_true] at hc
    obtain ⟨hn1, hn2, _⟩ := List.nodup_append.1 hnd
    cases hx : hasR k x with
    | true =>
      rw [hx, cond_true] at h
      simp only [posS, hx, if_true]
      refine atS_sound hm hT hF hG hfx x Q K f a m hc.1 hn1 hK (fun k v hk hl hv a m hR => ?_) h hv hR
      have := hp k v (by simp [hasR, hk]) hl hv a m hR
      simpa only [posS, hk, if_true] using this
    | false =>
      rw [hx, cond_false] at h
      simp only [posS, hx, Bool.false_eq_true, if_false]
      refine atS_sound hm hT hF hG hfx y Q K f a m hc.2 hn2 hK (fun k v hk hl hv a m hR => ?_) h hv hR
      have := hp k v (by simp [hasR, hk]) hl hv a m hR
      simpa only [posS, nodup_seq hnd hk, Bool.false_eq_true, if_false] using this
  | .block id x, Q, K, f, a, m, hc, hnd, hK, hp, h, hv, hR => by
    simp only [atS] at h
    simp only [posS]
    refine atS_sound hm hT hF hG hfx x _ _ f a m hc hnd ?_ (fun k v hk hl hv a m hR => hp k v hk hl hv a m hR) h hv hR
    intro e st a m hk hR
    cases e with
    | norm => exact hK .norm st a m hk hR
    | ret => exact hK .ret st a m hk hR
    | exit j =>
      simp only [toExit, Exit.inBlock]
      cases hb : Nat.beq j id with
      | true =>
        rw [if_pos (Nat.eq_of_beq_eq_true hb)]
        simp only [hb, cond_true] at hk
        exact hK .norm st a m hk hR
      | false =>
        rw [if_neg (fun e => by rw [e, Nat.beq_refl] at hb; cases hb)]
        simp only [hb, cond_false] at hk
        exact hK (.exit j) st a m hk hR
  | .loop x, Q, K, f, a, m, hc, hnd, hK, hp, h, hv, hR => by
    simp only [atS] at h
    simp only [posS]
    refine atS_sound hm hT hF hG hfx x _ _ f a m hc hnd ?_ hp.loop h hv hR
    intro e st a m hk hR
    cases e with
    | norm => exact inLoop_of (headOf_sound x _ st a m hnd hp.loop hk hR)
    | exit j => exact hK (.exit j) st a m hk hR
    | ret => exact hK .ret st a m hk hR
  | .skip, Q, K, f, a, m, hc, hnd, hK, hp, h, hv, hR | .rangeFunc .., Q, K, f, a, m, hc, hnd, hK, hp, h, hv, hR | .exit _, Q, K, f, a, m, hc, hnd, hK, hp, h, hv, hR | .scope _, Q, K, f, a, m, hc, hnd, hK, hp, h, hv, hR
  | .label _, Q, K, f, a, m, hc, hnd, hK, hp, h, hv, hR | .goto _, Q, K, f, a, m, hc, hnd, hK, hp, h, hv, hR | .ret, Q, K, f, a, m, hc, hnd, hK, hp, h, hv, hR | .refuse _, Q, K, f, a, m, hc, hnd, hK, hp, h, hv, hR => by
    simp [atS] at h
end
end Go.Fm
