/- The functional machine: regions, codes. -/
import Derived.Test.YtmbcblabfgepfaaDoorFmCq
import Derived.Test.YtmbcblabfgepfaaDoorFmTl
import Derived.Test.YtmbcblabfgepfaaDoorFmFl
import Derived.Test.YtmbcblabfgepfaaDoorFmMk
import Derived.Test.YtmbcblabfgepfaaDoorFmMh
import Derived.Still
set_option autoImplicit true
set_option linter.unusedVariables false
set_option linter.unusedSimpArgs false
set_option linter.unusedSectionVars false
namespace Go.Fm
variable [Strict]

section
variable {P : Program} {cx : Ctx} {st st' : St} {a : Act} {m m' : Mem} {w0 : World} {O0 : OX} {n : Nat} {R : Type} {r : R} {G : World → Prop} {o : Oper} {K : St → Option R}

theorem Rel.gen (hR : Rel st a m w0 O0 n) (g : Nat) : Rel { st with gen := g } a m w0 O0 n := ⟨hR.nodes, hR.used, hR.ok, hR.slot, hR.defers, hR.size, hR.fixed⟩
theorem Rel.known (hR : Rel st a m w0 O0 n) {g : Nat} {b : Bool} (h : a.tmps.getD g undef = .bool b) : Rel (Go.Fm.known st g b) a m w0 O0 n := by
  refine ⟨hR.nodes, hR.used, hR.ok, fun t => ?_, hR.defers, hR.size, hR.fixed⟩
  simp only [Go.Fm.known, St.put]
  by_cases ht : t = g
  · subst ht; rw [upd_same, h]; exact SRel.bool b
  · rw [upd_other _ _ ht]; exact hR.slot t

/-- an array of rows, read whole: it is no one's from there on -/
theorem hard_loadA (hT : TypesOK P cx) (hR : Rel st a m w0 O0 n) (hd : ∀ t, o.dst = some t → t < n ∧ O0.fx t = none) {t : TypeId} {p : Operand} (ho : o.op = .load t p) (h : hardC cx st o K = some r) : ∃ st', K st' = some r ∧ HOp P o a m.w st' w0 O0 n := by
  simp only [hardC, ho] at h
  split at h
  · rename_i kn e q e0 i0 hk hev
    split at h
    · rename_i ty e1 ts l hn
      split at h
      · rename_i hi0
        subst hi0
        split at h
        · rename_i l' hc
          split at h
          · rename_i hln
            obtain ⟨hke, hl⟩ := cast?_some hc
            cases hke
            dsimp only at hl; subst hl
            have hp := evalS_sound hR p
            rw [hev] at hp; simp only [SRel] at hp
            obtain ⟨hus, _, g, nn, cap0, o1, k1, h1, hlt, h2, h3⟩ := hp
            simp only [pathOff, Option.some.injEq, Prod.mk.injEq] at h2
            obtain ⟨rfl, rfl⟩ := h2
            have h3 : a.eval p = .pointer (some ⟨g, 0, none⟩) := by simpa using h3
            have hD := hR.deep hn
            have hn' : m.nodes q = some (.deep ty (.struct (.slice e)) ts l) := by rw [hR.nodes]; exact hn
            have hsub : ∀ q' x, upd st.nodes q none q' = some x → st.nodes q' = some x := fun q' x hx => by
              by_cases hqq : q' = q
              · subst hqq; simp [upd_same] at hx
              · simpa [upd_other _ _ hqq] using hx
            have hR1 := hR.cut hsub
            have hO : ∀ b, Blk (m.loc q) b → ¬ (m.cut (upd st.nodes q none)).O b := by
              rintro b hb (⟨q', x, hx, hb'⟩ | hX)
              · have hx : upd st.nodes q none q' = some x := hx
                have hqq : q' ≠ q := fun e => by subst e; simp [upd_same] at hx
                have := hR.ok.inj q' q _ _ b (by rw [hR.nodes]; exact hsub q' x hx) hn' hb' hb
                exact hqq this
              · exact hR.ok.apart ⟨q, _, hn', hb⟩ hX
            have hle : ∀ b, (m.cut (upd st.nodes q none)).O b → m.O b := by
              rintro b (⟨q', x, hx, hb'⟩ | hX)
              · exact .inl ⟨q', x, by rw [hR.nodes]; exact hsub q' x hx, hb'⟩
              · exact .inr hX
            have hreg := deep_reg hD hle hO h1
            obtain ⟨A, cap, e1, _, e2⟩ := hreg.slice_inv
            simp only [Value.slice.injEq] at e1
            obtain ⟨e3, e4, _⟩ := e1
            have hlen : nn = kn := by rw [e4]; exact hln
            rcases e2 with e2 | ⟨b, off, blk, ty2, fr, rfl, e5, _, e6⟩
            · omega
            · simp only [Option.some.injEq, Addr.mk.injEq, and_true] at e3
              obtain ⟨rfl, rfl⟩ := e3
              have hw1 : width (Kind.struct (.slice e)) = 1 := rfl
              rw [hw1, Nat.mul_one, show List.length l = kn from hln, List.drop_zero] at e6
              have hwt : width (cx.kd t) = kn := by rw [hk]; simp [width]
              have hpl : plain (cx.kd t) = true := by rw [hk]; simp [plain, width]; omega
              obtain ⟨ht, hoB, hi⟩ := plain_of hT hpl
              have e6' : Rows (Cells m.w (m.cut (upd st.nodes q none)).O (.slice e)) (blk.toList.take kn) l := e6.imp fun c x hc => hc
              have hbl := Rows.length (Cells.len (.slice e)) e6'
              have hsz : kn ≤ blk.size := by
                rw [show width (Kind.slice e) = 1 from rfl, Nat.mul_one, show List.length l = kn from hln, List.length_take, Array.length_toList] at hbl
                omega
              have hrun := run_loadVar (P := P) ht hoB hi e5 0 (by rw [hwt]; omega)
              rw [hwt, List.drop_zero, hk] at hrun
              have hs : SRel (m.cut (upd st.nodes q none)) (.val (.arr kn (.slice e)) l) (regOf (.arr kn (.slice e)) (blk.toList.take kn)) := by
                simp only [SRel]
                have hcc : Cells (m.cut (upd st.nodes q none)).w (m.cut (upd st.nodes q none)).O (.arr kn (.slice e)) (blk.toList.take kn) l := ⟨hln, e6'⟩
                have hf := Form.of_cells hcc (.inl rfl)
                exact Reg.of hf.1 (by rw [hf.2]; exact hcc)
              have hR2 : Rel (st.setNode q none) a (m.cut (upd st.nodes q none)) w0 O0 n := hR1
              exact ⟨_, h, (HOpR.value (m := m) (m' := m.cut (upd st.nodes q none)) (Z := fun _ => False) (run_loadOp ho h3 hrun) rfl (hR2.put o.dst hd hs) (Grow.refl _).none (fun b hb => by
                obtain ⟨q', x, hx, hx1, hb⟩ := hb
                exact .inl ⟨q', x, by rw [hR.nodes]; exact hsub q' x hx, hx1, hb⟩)).z.op⟩
          · cases h
        · cases h
      · cases h
    · cases h
  · cases h
theorem hardC_sound (hT : TypesOK P cx) (hF : FnsOK P G cx) (hG : ∀ w', Frame0 w0 O0 w' → G w') (hR : Rel st a m w0 O0 n) (hd : ∀ t, o.dst = some t → t < n ∧ O0.fx t = none) (h : hardC cx st o K = some r) : ∃ st', K st' = some r ∧ HOp P o a m.w st' w0 O0 n := by
  cases ho : o.op with
  | alloc t => obtain ⟨s, h1, h2⟩ := hard_alloc hT hR hd ho h; exact ⟨s, h1, h2.op⟩
  | load t p => exact hard_loadA hT hR hd ho h
  | box t x => obtain ⟨s, h1, h2⟩ := hard_box hT hR hd ho h; exact ⟨s, h1, h2.op⟩
  | buildSlice t k ps => obtain ⟨s, h1, h2⟩ := hard_buildSlice hT hR hd ho h; exact ⟨s, h1, h2.z.op⟩
  | makeSlice t x y => obtain ⟨s, h1, h2⟩ := hard_makeSlice hT hR hd ho h; exact ⟨s, h1, h2.op⟩
  | convert s d x => exact hard_bytes hT hR hd ho h
  | makeMap t x =>
    cases x with
    | none => exact hard_makeMap hT hR hd ho h
    | some x => simp [hardC, ho] at h
  | mapUpdate t x i y => exact hard_mapUpdate hT hR hd ho h
  | makeFunc g first caps =>
    cases g with
    | func g => obtain ⟨s, h1, h2⟩ := hard_makeFunc hR hd ho h; exact ⟨s, h1, h2.z.op⟩
    | _ => simp [hardC, ho] at h
  | store t p x =>
    cases hev : evalS st p with
    | box b path => exact hard_store_box hT hR hd ho hev h
    | elem q i path => exact hard_store_elem hT hR hd ho hev h
    | cell b i => exact hard_store_cell hT hR hd ho hev h
    | delem q e0 i path =>
      cases hfl : flat (cx.kd t) with
      | true => exact hard_store_deepF hT hR hd ho hev hfl h
      | false => exact hard_store_deepA hT hR hd ho hev hfl h
    | _ =>
      simp only [hardC, ho] at h
      cases hp : plain (cx.kd t) <;> simp [hp, hev] at h
  | call c =>
    obtain ⟨cal, args, ts⟩ := c
    cases cal with
    | value f =>
      cases hpf : pfOf cx f with
      | none => obtain ⟨s, h1, Z, h2, _⟩ := hard_call hF hG hR hd ho hpf h; exact ⟨s, h1, h2.z.op⟩
      | some p => exact hard_callQ hF hG hR hd ho hpf h
    | invoke => simp [hardC, ho] at h
    | builtin b =>
      cases b with
      | append => obtain ⟨s, h1, h2⟩ := hard_append hT hR hd ho h; exact ⟨s, h1, h2.z.op⟩
      | clear => exact hard_clear hT hR hd ho h
      | _ => simp [hardC, ho] at h
  | _ => simp [hardC, ho] at h

/-- what only makes memory does so -/
theorem hardC_grow (hT : TypesOK P cx) (hF : FnsOK P G cx) (hG : ∀ w', Frame0 w0 O0 w' → G w') (hR : Rel st a m w0 O0 n) (hd : ∀ t, o.dst = some t → t < n ∧ O0.fx t = none) (hg : growOp cx o.op = true) (h : hardC cx st o K = some r) :
    ∃ st', K st' = some r ∧ ∃ Z, HOpZ P o a m.w st' w0 O0 n Z ∧ ∀ b, ¬ Z b := by
  cases ho : o.op with
  | alloc t => obtain ⟨s, h1, h2⟩ := hard_alloc hT hR hd ho h; exact ⟨s, h1, _, h2, fun _ h => h⟩
  | box t x => obtain ⟨s, h1, h2⟩ := hard_box hT hR hd ho h; exact ⟨s, h1, _, h2, fun _ h => h⟩
  | buildSlice t k ps => obtain ⟨s, h1, h2⟩ := hard_buildSlice hT hR hd ho h; exact ⟨s, h1, _, h2.z, fun _ h => h⟩
  | makeSlice t x y => obtain ⟨s, h1, h2⟩ := hard_makeSlice hT hR hd ho h; exact ⟨s, h1, _, h2, fun _ h => h⟩
  | call c =>
    obtain ⟨cal, args, ts⟩ := c
    cases cal with
    | value f =>
      have hpf : pfOf cx f = none := by
        rw [ho] at hg
        cases f <;> simp only [growOp] at hg <;> (try (cases hg; done))
        simp only [Bool.and_eq_true, Option.isNone_iff_eq_none] at hg
        exact hg.1
      obtain ⟨s, h1, Z, h2, h3⟩ := hard_call hF hG hR hd ho hpf h; exact ⟨s, h1, Z, h2.z, h3.1 hg⟩
    | _ => rw [ho] at hg; cases hg
  | _ => rw [ho] at hg; cases hg

theorem opS_sound (hT : TypesOK P cx) (hF : FnsOK P G cx) (hG : ∀ w', Frame0 w0 O0 w' → G w') (hR : Rel st a m w0 O0 n) (hd : ∀ t, o.dst = some t → t < n ∧ O0.fx t = none) (h : opS cx st o K = some r) : ∃ st', K st' = some r ∧ HOp P o a m.w st' w0 O0 n := by
  unfold opS at h
  cases hs : soft cx o.op with
  | false => rw [hs, cond_false] at h; exact hardC_sound hT hF hG hR hd h
  | true =>
    rw [hs, cond_true] at h
    obtain ⟨s, h1, u, h2, h3⟩ := softC_sound hT hF hG hR o.op hs h
    refine ⟨_, h1, fun next Q hn => ?_⟩
    refine Oper.wp_of_quiet (C := Grow m.w) (K := fun a' => a' = a.put o.dst u) (Grow.refl m.w) ?_ ⟨u, fun w' hw' => quiet_weak hw' (h3 o rfl w' hw'), rfl⟩
    rintro a' w' hw' rfl
    exact hn _ _ ((hR.put o.dst hd h2).grow hw')

theorem yielded_eq {ops : Array Oper} {j g : Nat} (hg : (ops[j]?).bind (·.dst) = some g) {b : Bool} (h : a.tmps.getD g undef = .bool b) : yielded ops a.tmps j = some b := by
  unfold yielded
  rw [hg]
  simp only [Array.getD_eq_getD_getElem?] at h
  cases hx : a.tmps[g]? with
  | none => rw [hx] at h; simp [undef] at h
  | some v => rw [hx] at h; simp at h; simp [hx, h]

theorem SRel.undef' (m : Mem) : SRel m .undef undef := by simp [SRel]
theorem yielded_none {ops : Array Oper} {j g : Nat} (hg : (ops[j]?).bind (·.dst) = some g) (h : a.tmps.getD g undef = undef) : yielded ops a.tmps j = none := by
  unfold yielded
  rw [hg]
  simp only [Array.getD_eq_getD_getElem?] at h
  cases hx : a.tmps[g]? with
  | none => simp [hx]
  | some v => rw [hx] at h; simp at h; subst h; simp [hx, undef]
theorem Exit.ok {Q : Exit → Act → World → Prop} : True := trivial

/-- a region in the order of the text -/
theorem region_seq (hT : TypesOK P cx) (hF : FnsOK P G cx) (hG : ∀ w', Frame0 w0 O0 w' → G w') {ops : Array Oper} {Q : Exit → Act → World → Prop} (hQ : ∀ st' a' m', Rel st' a' m' w0 O0 n → K st' = some r → Q .normal a' m'.w) :
    ∀ (l : List Oper) (i : Nat) (st : St) (a : Act) (m : Mem), (∀ j, l[j]? = ops[i + j]?) → (∀ o ∈ l, ∀ t, o.dst = some t → t < n ∧ O0.fx t = none) → Rel st a m w0 O0 n → regionS cx ops l st K = some r → wpOps P ops Q (List.range' i l.length) a m.w
  | [], i, st, a, m, hl, hd, hR, h => by simpa [wpOps] using hQ st a m hR h
  | o :: l, i, st, a, m, hl, hd, hR, h => by
    have h0 : ops[i]? = some o := by simpa using (hl 0).symm
    have hl' : ∀ j, l[j]? = ops[i + 1 + j]? := fun j => by have := hl (j + 1); simpa [Nat.add_assoc, Nat.add_comm 1 j] using this
    have hd' : ∀ o ∈ l, ∀ t, o.dst = some t → t < n ∧ O0.fx t = none := fun o ho => hd o (by simp [ho])
    have hdo := hd o (by simp)
    simp only [List.length_cons, List.range'_succ, wpOps, h0]
    simp only [regionS] at h
    split at h
    · rename_i hgd
      rw [if_pos (by simp [Region.wanted, hgd])]
      left
      obtain ⟨st', h1, h2⟩ := opS_sound hT hF hG hR hdo h
      exact h2 _ _ fun a' m' hR' => region_seq hT hF hG hQ l (i + 1) st' a' m' hl' hd' hR' h1
    · rename_i j want hgd
      split at h
      · cases h
      · rename_i g hg
        have key : ∀ b : Bool, a.tmps.getD g undef = .bool b → cond (b == want) (opS cx (known st g b) o fun st => regionS cx ops l st K) (regionS cx ops l ((known st g b).put o.dst .undef) K) = some r →
            (if Region.wanted o (yielded ops a.tmps) = true then o.wp P a m.w (wpOps P ops Q (List.range' (i + 1) l.length)) Q ∨ (o.asks P a m.w ∧ LetsOut Q) else wpOps P ops Q (List.range' (i + 1) l.length) (a.put o.dst undef) m.w) := by
          intro b hb hc
          have hy := yielded_eq (a := a) hg hb
          have hRk := hR.known hb
          cases hbw : (b == want) with
          | true =>
            rw [hbw, cond_true] at hc
            have : b = want := by simpa using hbw
            rw [if_pos (by simp [Region.wanted, hgd, hy, this])]
            left
            obtain ⟨st', h1, h2⟩ := opS_sound hT hF hG hRk hdo hc
            exact h2 _ _ fun a' m' hR' => region_seq hT hF hG hQ l (i + 1) st' a' m' hl' hd' hR' h1
          | false =>
            rw [hbw, cond_false] at hc
            have : b ≠ want := by simpa using hbw
            rw [if_neg (by simp [Region.wanted, hgd, hy, this])]
            exact region_seq hT hF hG hQ l (i + 1) _ _ m hl' hd' (hRk.put o.dst hdo (SRel.undef' _)) hc
        split at h
        · rename_i hun
          have hu := hR.slot g
          rw [hun] at hu
          have hu' : a.tmps.getD g undef = undef := by simpa only [SRel] using hu
          rw [if_neg (by simp [Region.wanted, hgd, yielded_none hg hu'])]
          exact region_seq hT hF hG hQ l (i + 1) _ _ m hl' hd' (hR.put o.dst hdo (SRel.undef' _)) h
        · rcases split_some (hR.slot g) h with ⟨h1, h2⟩ | ⟨h1, h2⟩
          · exact key true h1 h2
          · exact key false h1 h2

/-- a region whose operations leave memory alone, in whatever order -/
theorem region_quiet (hT : TypesOK P cx) (hF : FnsOK P G cx) (hG : ∀ w', Frame0 w0 O0 w' → G w') {ops : Array Oper} {Q : Exit → Act → World → Prop} (hQ : ∀ st' a' m', Rel st' a' m' w0 O0 n → K st' = some r → Q .normal a' m'.w) :
    ∀ (l : List Oper) (st : St) (a : Act) (m : Mem), (∀ o ∈ l, ∀ t, o.dst = some t → t < n ∧ O0.fx t = none) → (∀ o ∈ l, soft cx o.op = true) → Rel st a m w0 O0 n → regionS cx ops l st K = some r →
      wpQuiet P ops (Grow m.w) (fun a' => ∀ w', Grow m.w w' → Q .normal a' w') l a
  | [], st, a, m, hd, hs, hR, h => fun w' hw' => hQ st a (m.at w') (hR.grow hw') h
  | o :: l, st, a, m, hd, hs, hR, h => by
    have hd' : ∀ o ∈ l, ∀ t, o.dst = some t → t < n ∧ O0.fx t = none := fun o ho => hd o (by simp [ho])
    have hs' : ∀ o ∈ l, soft cx o.op = true := fun o ho => hs o (by simp [ho])
    have hdo := hd o (by simp)
    have hso := hs o (by simp)
    have step : ∀ st1 : St, Rel st1 a m w0 O0 n → opS cx st1 o (fun st => regionS cx ops l st K) = some r → o.quiet P a (Grow m.w) (wpQuiet P ops (Grow m.w) (fun a' => ∀ w', Grow m.w w' → Q .normal a' w') l) := by
      intro st1 hR1 hc
      unfold opS at hc
      rw [hso, cond_true] at hc
      obtain ⟨s, h1, u, h2, h3⟩ := softC_sound hT hF hG hR1 o.op hso hc
      exact ⟨u, fun w' hw' => quiet_weak hw' (h3 o rfl w' hw'), region_quiet hT hF hG hQ l _ _ m hd' hs' (hR1.put o.dst hdo h2) h1⟩
    simp only [wpQuiet]
    simp only [regionS] at h
    split at h
    · rename_i hgd
      rw [if_pos (by simp [Region.wanted, hgd])]
      exact step st hR h
    · rename_i j want hgd
      split at h
      · cases h
      · rename_i g hg
        have key : ∀ b : Bool, a.tmps.getD g undef = .bool b → cond (b == want) (opS cx (known st g b) o fun st => regionS cx ops l st K) (regionS cx ops l ((known st g b).put o.dst .undef) K) = some r →
            (if Region.wanted o (yielded ops a.tmps) = true then o.quiet P a (Grow m.w) (wpQuiet P ops (Grow m.w) (fun a' => ∀ w', Grow m.w w' → Q .normal a' w') l) else wpQuiet P ops (Grow m.w) (fun a' => ∀ w', Grow m.w w' → Q .normal a' w') l (a.put o.dst undef)) := by
          intro b hb hc
          have hy := yielded_eq (a := a) hg hb
          have hRk := hR.known hb
          cases hbw : (b == want) with
          | true =>
            rw [hbw, cond_true] at hc
            have : b = want := by simpa using hbw
            rw [if_pos (by simp [Region.wanted, hgd, hy, this])]
            exact step _ hRk hc
          | false =>
            rw [hbw, cond_false] at hc
            have : b ≠ want := by simpa using hbw
            rw [if_neg (by simp [Region.wanted, hgd, hy, this])]
            exact region_quiet hT hF hG hQ l _ _ m hd' hs' (hRk.put o.dst hdo (SRel.undef' _)) hc
        split at h
        · rename_i hun
          have hu := hR.slot g
          rw [hun] at hu
          have hu' : a.tmps.getD g undef = undef := by simpa only [SRel] using hu
          rw [if_neg (by simp [Region.wanted, hgd, yielded_none hg hu'])]
          exact region_quiet hT hF hG hQ l _ _ m hd' hs' (hR.put o.dst hdo (SRel.undef' _)) h
        · rcases split_some (hR.slot g) h with ⟨h1, h2⟩ | ⟨h1, h2⟩
          · exact key true h1 h2
          · exact key false h1 h2

theorem regionS_append {all : Array Oper} : ∀ (l1 l2 : List Oper) (st : St), regionS cx all (l1 ++ l2) st K = regionS cx all l1 st fun st => regionS cx all l2 st K
  | [], l2, st => rfl
  | o :: l1, l2, st => by
    simp only [List.cons_append, regionS]
    have ih : (fun st => regionS cx all (l1 ++ l2) st K) = fun st => regionS cx all l1 st fun st => regionS cx all l2 st K := funext fun st => regionS_append l1 l2 st
    split
    · rw [ih]
    · split
      · rfl
      · simp only [ih, regionS_append l1 l2]
theorem softPre_soft : ∀ (l : List Oper), ∀ o ∈ l.take (softPre cx l), soft cx o.op = true
  | [], o, h => by simp at h
  | x :: l, o, h => by
    unfold softPre at h
    cases hb : soft cx x.op with
    | false => rw [hb] at h; simp at h
    | true =>
      rw [hb, cond_true, List.take_succ_cons] at h
      rcases List.mem_cons.1 h with rfl | h
      · exact hb
      · exact softPre_soft l o h
/-- what only reads, taken first -/
def GrB (ops : Array Oper) (R : Bool) (Z : Nat → Prop) (i : Nat) (w w' : World) : Prop :=
  match kindOf ops R i with
  | 2 => True
  | 1 => Frame0 w Z w'
  | _ => Grow w w'
theorem GrB.of_grow {ops : Array Oper} {R : Bool} {Z : Nat → Prop} (i : Nat) (w w' : World) (h : Grow w w') : GrB ops R Z i w w' := by
  unfold GrB
  split
  · trivial
  · exact ⟨h.os, h.tape, h.output, h.size, fun b hb _ => h.block b hb⟩
  · exact h
theorem GrB.trans {ops : Array Oper} {R : Bool} {Z : Nat → Prop} (i : Nat) (w w' w'' : World) (h : GrB ops R Z i w w') (h' : GrB ops R Z i w' w'') : GrB ops R Z i w w'' := by
  unfold GrB at *
  split
  · trivial
  · rename_i hk
    simp only [hk] at h h'
    exact ⟨h'.os.trans h.os, ⟨h'.tape.1.trans h.tape.1, fun hs => Nat.le_trans (h.tape.2 hs) (h'.tape.2 hs)⟩, h'.output.trans h.output, Nat.le_trans h.size h'.size, fun b hb hz => (h'.block b (Nat.lt_of_lt_of_le hb h.size) hz).trans (h.block b hb hz)⟩
  · rename_i h1 h2
    split at h
    · exact absurd (by assumption) h1
    · exact absurd (by assumption) h2
    · split at h'
      · exact absurd (by assumption) h1
      · exact absurd (by assumption) h2
      · exact h.trans h'
theorem kindOf_le {ops : Array Oper} {i : Nat} (h : kindOf ops false i = 1) : False := by
  unfold kindOf at h
  split at h
  · rename_i o _
    cases ho : o.op <;> simp [floatK, ho] at h
  · cases h
theorem region_tail (hT : TypesOK P cx) (hF : FnsOK P G cx) (hG : ∀ w', Frame0 w0 O0 w' → G w') {ops : Array Oper} {R' : Bool} {Z : Nat → Prop} {z0 : Nat} (hZ : ∀ b, z0 ≤ b → Z b) {Q : Act → World → Prop} {H0 : List Nat} (hQ : ∀ st' a' m', Rel st' a' m' w0 O0 n → K st' = some r → Q a' m'.w)
    (hd : ∀ o ∈ ops.toList, ∀ t, o.dst = some t → t < n ∧ O0.fx t = none) :
    ∀ (T : List Nat) (listed : Array Bool) (st : St) (a : Act) (m : Mem), floatTailB cx ops R' H0 T listed = true → Rel st a m w0 O0 n → (R' = true → ((∀ b, RowB m b → Z b) ∧ z0 ≤ m.w.heap.size) ∨ ∀ j ∈ T, ∀ x ∈ H0, reachB ops ops.size j x = true) → regionS cx ops (pickL ops T) st K = some r → wpAnyG P ops (GrB ops R' Z) H0 ops.size Q T.length listed a m.w
  | [], listed, st, a, m, hB, hR, hz, h => by
    simp only [floatTailB, decide_eq_true_eq] at hB
    exact ⟨hB, fun w' hg => hQ st a (m.at w') (hR.grow hg) h⟩
  | j :: T, listed, st, a, m, hB, hR, hz, h => by
    simp only [floatTailB, Bool.and_eq_true, decide_eq_true_eq] at hB
    obtain ⟨⟨hr, ho⟩, hB⟩ := hB
    cases hj : ops[j]? with
    | none => rw [hj] at ho; cases ho
    | some o =>
      rw [hj] at ho
      simp only [Bool.and_eq_true, Bool.or_eq_true, Option.isNone_iff_eq_none, List.all_eq_true, Bool.not_eq_true'] at ho
      obtain ⟨⟨hgd, hkind⟩, hmode⟩ := ho
      have hpick : pickL ops (j :: T) = o :: pickL ops T := by simp [pickL, hj]
      have hdo := hd o (Array.mem_toList_iff.2 (Array.mem_of_getElem? hj))
      rw [hpick] at h
      simp only [regionS, hgd] at h
      intro w1 hg1
      refine ⟨fun h0 => (by rw [hr] at h0; cases h0), fun i hi => ?_⟩
      rw [hr] at hi
      obtain rfl := List.mem_singleton.1 hi
      have hR1 := hR.grow hg1
      have hz1 : R' = true → ((∀ b, RowB (m.at w1) b → Z b) ∧ z0 ≤ w1.heap.size) ∨ ∀ j ∈ i :: T, ∀ x ∈ H0, reachB ops ops.size j x = true := fun hr' => (hz hr').imp (fun hz => ⟨hz.1, Nat.le_trans hz.2 hg1.size⟩) id
      refine ⟨o, hj, ?_⟩
      rw [if_pos (by simp [Region.wanted, hgd])]
      by_cases hs : soft cx o.op = true
      · unfold opS at h
        rw [hs, cond_true] at h
        obtain ⟨s, h1, u, h2, h3⟩ := softC_sound hT hF hG hR1 o.op hs h
        refine Oper.wp_of_quiet (C := Grow w1) (K := fun a' => a' = a.put o.dst u) (Grow.refl w1) ?_ ⟨u, fun w' hw' => quiet_weak hw' (h3 o rfl w' hw'), rfl⟩
        rintro a' w' hw' rfl
        exact ⟨fun _ _ _ => GrB.of_grow _ _ _ hw', region_tail hT hF hG hZ hQ hd T _ _ _ ((m.at w1).at w') hB ((hR1.put o.dst hdo h2).grow hw') (fun hr' => (hz1 hr').imp (fun hz1 => ⟨hz1.1, Nat.le_trans hz1.2 hw'.size⟩) fun hz1 j hj => hz1 j (List.mem_cons_of_mem _ hj)) h1⟩
      · have hsf : soft cx o.op = false := by simpa using hs
        have h' := h
        unfold opS at h'
        rw [hsf, cond_false] at h'
        cases hRR : R' with
        | true =>
          subst hRR
          have late : (∀ j ∈ i :: T, ∀ x ∈ H0, reachB ops ops.size j x = true) → Oper.wp P o a w1 (fun a' w' => (∀ i' ∈ H0, reachB ops ops.size i i' = false → GrB ops true Z i' w1 w') ∧ wpAnyG P ops (GrB ops true Z) H0 ops.size Q T.length (listed.setIfInBounds i true) a' w') (fun _ _ _ => False) := fun hl => by
            obtain ⟨s, h1, h2⟩ := hardC_sound hT hF hG hR1 hdo h'
            refine h2 _ _ fun a' m' hR' => ⟨fun i' hi' hrc => ?_, region_tail hT hF hG hZ hQ hd T _ _ a' m' hB hR' (fun _ => .inr fun j hj => hl j (List.mem_cons_of_mem _ hj)) h1⟩
            rw [hl i (List.mem_cons_self ..) i' hi'] at hrc; cases hrc
          rcases hz1 rfl with ⟨hzz, hz0⟩ | hlate
          rotate_left
          · exact late hlate
          have step : ∀ {Z' : Nat → Prop} {st1 : St}, (∀ b, Z' b → RowB (m.at w1) b) → regionS cx ops (pickL ops T) st1 K = some r → HOpR P o a (m.at w1) st1 w0 O0 n Z' → (∀ i' ∈ H0, reachB ops ops.size i i' = false → ∀ w', Frame0 w1 Z' w' → GrB ops true Z i' w1 w') →
              Oper.wp P o a w1 (fun a' w' => (∀ i' ∈ H0, reachB ops ops.size i i' = false → GrB ops true Z i' w1 w') ∧ wpAnyG P ops (GrB ops true Z) H0 ops.size Q T.length (listed.setIfInBounds i true) a' w') (fun _ _ _ => False) := by
            intro Z' st1 hZ' h1 h2 h3
            refine h2 _ _ fun a' m' hR' hf hrows => ⟨fun i' hi' hrc => h3 i' hi' hrc _ hf, region_tail hT hF hG hZ hQ hd T _ _ a' m' hB hR' (fun _ => .inl ⟨fun b hb => ?_, Nat.le_trans hz0 hf.size⟩) h1⟩
            rcases hrows b hb with h | h
            · exact hzz b h
            · exact hZ b (Nat.le_trans hz0 h)
          rcases hmode with (((hm | hm) | hm) | hm) | hm
          rotate_right
          · exact late hm
          · cases hm
          · exact absurd hm hs
          · -- append
            have hex : ∃ args ts, o.op = .call { callee := .builtin .append, args := args, argTypes := ts } := by
              cases hoo : o.op with
              | call c =>
                obtain ⟨cal, args, ts⟩ := c
                cases cal with
                | builtin b => cases b <;> simp [hoo, appendB] at hm; exact ⟨_, _, rfl⟩
                | _ => simp [hoo, appendB] at hm
              | _ => simp [hoo, appendB] at hm
            obtain ⟨args, ts, hoo⟩ := hex
            obtain ⟨s, h1, h2⟩ := hard_append hT hR1 hdo hoo h'
            refine step (fun b hb => hb) h1 h2 fun i' hi' hrc w' hf => ?_
            have hk : (∀ x ∈ H0, (reachB ops ops.size i x = true ∨ Nat.beq (kindOf ops true x) 2 = true) ∨ appendB o.op = true ∧ Nat.beq (kindOf ops true x) 1 = true) ∨ growOp cx o.op = true := by
              rcases hkind with (hk | hk) | hk
              · exact absurd hk hs
              · exact .inr hk
              · exact .inl hk
            rcases hk with hk | hk
            · rcases hk i' hi' with (hk | hk) | hk
              · rw [hrc] at hk; cases hk
              · unfold GrB; rw [Nat.eq_of_beq_eq_true hk]; trivial
              · unfold GrB
                rw [Nat.eq_of_beq_eq_true hk.2]
                exact ⟨hf.os, hf.tape, hf.output, hf.size, fun b hb hzb => hf.block b hb fun hrb => hzb (hzz b hrb)⟩
            · rw [hoo] at hk; cases hk
          · -- a row
            have hex : ∃ t k ps, o.op = .buildSlice t k ps := by
              cases hoo : o.op <;> simp [hoo, buildB] at hm
              exact ⟨_, _, _, rfl⟩
            obtain ⟨t, k, ps, hoo⟩ := hex
            obtain ⟨s, h1, h2⟩ := hard_buildSlice hT hR1 hdo hoo h'
            exact step (fun b hb => hb.elim) h1 h2 fun i' hi' hrc w' hf => GrB.of_grow _ _ _ (hf.grows fun _ h => h)
        | false =>
          subst hRR
          by_cases hgo : growOp cx o.op = true
          · obtain ⟨s, h1, Z', h2, h3⟩ := hardC_grow hT hF hG hR1 hdo hgo h'
            refine h2 _ _ fun a' m' hR' hf => ?_
            exact ⟨fun _ _ _ => GrB.of_grow _ _ _ (hf.grows h3), region_tail hT hF hG hZ hQ hd T _ _ a' m' hB hR' (fun hr' => by cases hr') h1⟩
          · have hk : ∀ x ∈ H0, (reachB ops ops.size i x = true ∨ Nat.beq (kindOf ops false x) 2 = true) ∨ appendB o.op = true ∧ Nat.beq (kindOf ops false x) 1 = true := by
              rcases hkind with (hk | hk) | hk
              · exact absurd hk hs
              · exact absurd hk hgo
              · exact hk
            obtain ⟨s, h1, h2⟩ := hardC_sound hT hF hG hR1 hdo h'
            refine h2 _ _ fun a' m' hR' => ?_
            refine ⟨fun i' hi' hrc => ?_, region_tail hT hF hG hZ hQ hd T _ _ a' m' hB hR' (fun hr' => by cases hr') h1⟩
            rcases hk i' hi' with (hk | hk) | hk
            · rw [hrc] at hk; cases hk
            · unfold GrB; rw [Nat.eq_of_beq_eq_true hk]; trivial
            · exact (kindOf_le (Nat.eq_of_beq_eq_true hk.2)).elim
/-- what it reads is as it was -/
theorem loose_load (hT : TypesOK P cx) (hR : Rel st a m w0 O0 n) (t : TypeId) (p : Operand) (hl : looseB st (.load t p) = true) {C : Slot → Option R} (h : softC cx st (.load t p) C = some r) :
    ∃ s, C s = some r ∧ ∃ u, SRel m s u ∧ ∀ o : Oper, o.op = .load t p → ∀ w', Frame0 m.w (fun b => RowB m b ∨ m.X b ∨ m.w.heap.size ≤ b) w' → (execOp a.eval o).run P w' = .ok (.value u) w' := by
  have hp := evalS_sound hR p
  simp only [softC] at h
  simp only [looseB] at hl
  cases hpl : plain (cx.kd t) with
  | false =>
    rw [hpl, cond_false] at h
    split at h
    · simp [evalS] at hl
    · cases h
  | true =>
  rw [hpl, cond_true] at h
  obtain ⟨ht, ho, hi⟩ := plain_of hT hpl
  split at hl
  · rename_i b path hev
    rw [hev] at hp h
    simp only [SRel] at hp
    dsimp only at h
    split at h
    · rename_i k c hn
      have hn' : m.nodes b = some (.var k c) := by rw [hR.nodes]; exact hn
      obtain ⟨g, o', k', h1, h2, h3⟩ := hp.2 k c hn'
      obtain ⟨g', blk, ty, u, h4, h5, h6, h7, h8, h9⟩ := hR.ok.node b _ hn'
      rw [h1] at h4; simp at h4; subst h4
      simp only [h2] at h
      split at h
      · rename_i hk
        split at h
        · rename_i x hx
          have hle := pathOff_le h2
          have hsz := h7.size
          rw [h6] at hsz
          obtain ⟨g1, g2, g3⟩ := getP_sound h7 h8 h9 h2 (by rw [hk]; exact ho) hx
          refine ⟨x, h, _, g1, fun oo hoo w' hf => run_loadOp hoo h3 ?_⟩
          rw [h6, hk]
          have hgl : g < m.w.heap.size := lt_of_heap h5
          have hgz : ¬ (RowB m g ∨ m.X g ∨ m.w.heap.size ≤ g) := by
            have hbb : Blk (m.loc b) g := by rw [h1]; rfl
            rintro (⟨q, x', hq, hx', hb⟩ | hb | hb)
            · have : b = q := hR.ok.inj b q _ _ g hn' hq hbb hb
              subst this
              rw [hn'] at hq; cases hq; cases hx'
            · exact hR.ok.apart ⟨b, _, hn', hbb⟩ hb
            · omega
          exact run_loadVar ht ho hi ((hf.block g hgl hgz).trans h5) o' (by rw [← hk]; omega)
        · cases h
      · cases h
    · cases h
  · cases hl
theorem loose_field (hT : TypesOK P cx) (hR : Rel st a m w0 O0 n) (t : TypeId) (p : Operand) (f : Nat) (hl : looseB st (.fieldAddr t p f) = true) {C : Slot → Option R} (h : softC cx st (.fieldAddr t p f) C = some r) :
    ∃ s, C s = some r ∧ ∃ u, SRel m s u ∧ ∀ o : Oper, o.op = .fieldAddr t p f → ∀ w', (execOp a.eval o).run P w' = .ok (.value u) w' := by
  have hp := evalS_sound hR p
  simp only [softC] at h
  simp only [looseB] at hl
  split at hl
  · rename_i b path hev
    rw [hev] at hp h
    simp only [SRel] at hp
    dsimp only at h
    split at h
    · rename_i k c hn
      split at h
      · rename_i o' k' hpo
        split at h
        · rename_i hk
          split at h
          · rename_i x hx2
            obtain ⟨o2, k2⟩ := x
            have hn' : m.nodes b = some (.var k c) := by rw [hR.nodes]; exact hn
            obtain ⟨g, o3, k3, h1, h2, h3⟩ := hp.2 k c hn'
            rw [hpo] at h2; cases h2
            obtain ⟨b', o1, rfl, h5, rfl⟩ := pathOff_snoc_inv hpo hx2
            refine ⟨_, h, _, ?_, fun o ho w' => run_fieldOp hT ho hk h5 h3 w'⟩
            simp only [SRel]
            refine ⟨hp.1, fun k2' c2 hn2 => ?_⟩
            rw [hn'] at hn2; cases hn2
            exact ⟨g, _, _, h1, (catP_eq _ _).symm ▸ hx2, rfl⟩
          · cases h
        · cases h
      · cases h
    · cases h
  · cases hl
theorem region_head (hT : TypesOK P cx) (hF : FnsOK P G cx) (hG : ∀ w', Frame0 w0 O0 w' → G w') {ops : Array Oper} {R' : Bool} {Q : Act → World → Prop} {H0 T : List Nat} (hQ : ∀ st' a' m', Rel st' a' m' w0 O0 n → K st' = some r → Q a' m'.w)
    (hd : ∀ o ∈ ops.toList, ∀ t, o.dst = some t → t < n ∧ O0.fx t = none) (hsel : Region.noSelect ops = true) (m : Mem) {Z : Nat → Prop} (hZ : Z = fun b => RowB m b ∨ m.w.heap.size ≤ b) :
    ∀ (H : List Nat) (listed : Array Bool) (st : St) (a : Act), Closed ops listed → floatHeadB cx ops R' H0 T H listed = true → Rel st a m w0 O0 n → floatS cx ops R' H st (fun st => regionS cx ops (pickL ops T) st K) = some r →
      wpAnyG P ops (GrB ops R' Z) H0 ops.size Q (H.length + T.length) listed a m.w
  | [], listed, st, a, hcl, hB, hR, h => by
    rw [List.length_nil, Nat.zero_add]
    exact region_tail hT hF hG (z0 := m.w.heap.size) (fun b hb => by rw [hZ]; exact .inr hb) hQ hd T listed st a m hB hR (fun _ => .inl ⟨fun b hb => by rw [hZ]; exact .inl hb, Nat.le_refl _⟩) h
  | i :: H, listed, st, a, hcl, hB, hR, h => by
    simp only [floatHeadB, Bool.and_eq_true] at hB
    obtain ⟨⟨⟨⟨hr, hfree⟩, ho⟩, hin⟩, hB⟩ := hB
    cases hj : ops[i]? with
    | none => rw [hj] at ho; cases ho
    | some o =>
      rw [hj] at ho
      simp only [Bool.and_eq_true, Option.isNone_iff_eq_none] at ho
      obtain ⟨hgd, hs⟩ := ho
      have hdo := hd o (Array.mem_toList_iff.2 (Array.mem_of_getElem? hj))
      simp only [floatS, hj] at h
      cases hlo : (!(R' && !(boundB ops i)) || looseB st o.op) with
      | false => rw [hlo] at h; cases h
      | true =>
      rw [hlo, cond_true] at h
      unfold opS at h
      rw [hs, cond_true] at h
      have hko : kindOf ops R' i = floatK (R' && !(boundB ops i)) o.op := by simp [kindOf, hj]
      have hmem : i ∈ Region.ready .any ops listed := by simpa using hr
      -- what it yields, in every world that is to be thought of
      have hy : ∃ s u, floatS cx ops R' H (st.put o.dst s) (fun st => regionS cx ops (pickL ops T) st K) = some r ∧ SRel m s u ∧ ∀ w1, GrB ops R' Z i m.w w1 → o.quietAt P a (Grow w1) w1 u := by
        unfold GrB
        rw [hko]
        clear hko
        generalize (R' && !(boundB ops i)) = R2 at hlo ⊢
        have base : floatK R2 o.op = 0 → ∃ s u, floatS cx ops R' H (st.put o.dst s) (fun st => regionS cx ops (pickL ops T) st K) = some r ∧ SRel m s u ∧ ∀ w1, (match floatK R2 o.op with | 2 => True | 1 => Frame0 m.w Z w1 | _ => Grow m.w w1) → o.quietAt P a (Grow w1) w1 u := by
          intro h0
          obtain ⟨s, h1, u, h2, h3⟩ := softC_sound hT hF hG hR o.op hs h
          refine ⟨s, u, h1, h2, fun w1 hw1 => ?_⟩
          rw [h0] at hw1
          exact h3 o rfl w1 hw1
        have still : ∀ {u : Value} {w1 : World}, (execOp a.eval o).run P w1 = .ok (.value u) w1 → o.quietAt P a (Grow w1) w1 u := fun hh => by
          unfold Oper.quietAt; rw [hh]; exact ⟨rfl, rfl⟩
        cases hoo : o.op with
        | move x =>
          rw [hoo] at h
          exact ⟨_, _, h, evalS_sound hR x, fun w1 _ => still (by simp [execOp, hoo])⟩
        | assign x =>
          rw [hoo] at h
          exact ⟨_, _, h, evalS_sound hR x, fun w1 _ => still (by simp [execOp, hoo])⟩
        | slice t x lo hi mx =>
          rw [hoo] at h
          obtain ⟨s, h1, u, h2, h3⟩ := slice_any (P := P) hT hR t x lo hi mx h
          exact ⟨s, u, h1, h2, fun w1 _ => still (h3 o hoo w1)⟩
        | extract x k =>
          rw [hoo] at h
          have hx := evalS_sound hR x
          simp only [softC] at h
          split at h
          · rename_i l he
            split at h
            · rename_i s hs'
              rw [he] at hx; simp only [SRel] at hx
              obtain ⟨us, h1, h2⟩ := hx
              obtain ⟨u, h3, h4⟩ := STup_get h2 hs'
              exact ⟨s, u, h, h4, fun w1 _ => still (by simp [execOp, hoo, h1, Instr.extract, h3])⟩
            · cases h
          · cases h
        | load t p =>
          cases hRR : R2 with
          | false => subst hRR; have := base (by simp [floatK, hoo]); rw [hoo] at this; exact this
          | true =>
            subst hRR
            rw [hoo] at h hlo
            obtain ⟨s, h1, u, h2, h3⟩ := loose_load hT hR t p (by simpa using hlo) h
            refine ⟨s, u, h1, h2, fun w1 hw1 => still (h3 o hoo w1 ?_)⟩
            rw [hZ] at hw1
            exact ⟨hw1.os, hw1.tape, hw1.output, hw1.size, fun b hb hn => hw1.block b hb fun hn' => hn (hn'.imp id .inr)⟩
        | fieldAddr t p f =>
          cases hRR : R2 with
          | false => subst hRR; have := base (by simp [floatK, hoo]); rw [hoo] at this; exact this
          | true =>
            subst hRR
            rw [hoo] at h hlo
            obtain ⟨s, h1, u, h2, h3⟩ := loose_field hT hR t p f (by simpa using hlo) h
            exact ⟨s, u, h1, h2, fun w1 hw1 => still (h3 o hoo w1)⟩
        | _ => have := base (by simp [floatK, hoo]); rw [hoo] at this; exact this
      obtain ⟨s, u, h1, h2, h3⟩ := hy
      have ih := region_head hT hF hG hQ hd hsel m hZ H _ _ _ (hcl.set hmem) hB (hR.put o.dst hdo h2) h1
      rw [List.length_cons, show H.length + 1 + T.length = (H.length + T.length) + 1 by omega]
      exact wpAnyG_first (fun i w w' => GrB.of_grow i w w') (fun i w w' w'' => GrB.trans i w w' w'') (by simpa using hin) hj (Region.noSelect_spec hsel) _ listed a m.w hcl (Region.free_spec hj hfree) hmem (.inl ⟨by simp [Region.wanted, hgd], h3⟩) ih
theorem loose_ref (hT : TypesOK P cx) (hR : Rel st a m w0 O0 n) (t : TypeId) (p : Operand) {k : Kind} {v : k.T} (hev : evalS st p = .val (.ref k) v) {C : Slot → Option R} (h : softC cx st (.load t p) C = some r) :
    ∃ s, C s = some r ∧ ∃ u, SRel m s u ∧ ∀ o : Oper, o.op = .load t p → ∀ w', Frame0 m.w (fun b => RowB m b ∨ m.X b ∨ m.w.heap.size ≤ b) w' → (execOp a.eval o).run P w' = .ok (.value u) w' := by
  have hp := evalS_sound hR p
  simp only [softC, hev] at h
  cases hpl : plain (cx.kd t) with
  | false =>
    rw [hpl, cond_false] at h
    split at h
    · simp [evalS] at hev
    · cases h
  | true =>
  rw [hpl, cond_true] at h
  obtain ⟨ht, ho, hi⟩ := plain_of hT hpl
  rw [hev] at hp
  simp only [SRel] at hp
  split at h
  · rename_i hk
    unfold Reg at hp; rw [if_neg (by simp [aggB])] at hp
    obtain ⟨_, b, off, blk, ty, fr, h1, h2, h3, h4⟩ := hp
    have h1 : a.eval p = .pointer (some ⟨b, off, none⟩) := by simpa using h1
    have hf := Form.of_cells h4 (by rw [hk]; simpa [oneB, Bool.or_eq_true] using ho)
    have hl := h4.length
    refine ⟨_, h, regOf (cx.kd t) ((blk.toList.drop off).take (width (cx.kd t))), ?_, fun oo hoo w' hfr => run_loadOp hoo h1 (run_loadVar ht ho hi ((hfr.block b (lt_of_heap h2) ?_).trans h2) off ?_)⟩
    · rw [← hk]
      simp only [SRel]
      exact Reg.of hf.1 (by rw [hf.2]; exact h4)
    · rintro (⟨q, x', hq, _, hb⟩ | hb | hb)
      · exact h3 (.inl ⟨q, _, hq, hb⟩)
      · exact h3 (.inr hb)
      · have := lt_of_heap h2; omega
    · rw [← hk]
      simp at hl
      have hz : width k ≠ 0 := by
        rw [hk]
        cases hkk : cx.kd t <;> simp [hkk, plain] at hpl <;> simp [width]
        · omega
        · intro h1
          omega
      omega
  · cases h
/-- what it yields, whatever rows are written meanwhile -/
theorem loose_mix (hT : TypesOK P cx) (hF : FnsOK P G cx) (hG : ∀ w', Frame0 w0 O0 w' → G w') (hR : Rel st a m w0 O0 n) (o : Oper) (hl : looseM st o.op = true) {C : Slot → Option R} (h : softC cx st o.op C = some r) :
    ∃ s, C s = some r ∧ ∃ u, SRel m s u ∧ ∀ w1, Frame0 m.w (fun b => RowB m b ∨ m.X b ∨ m.w.heap.size ≤ b) w1 → o.quietAt P a (Grow w1) w1 u := by
  have still : ∀ {u : Value} {w1 : World}, (execOp a.eval o).run P w1 = .ok (.value u) w1 → o.quietAt P a (Grow w1) w1 u := fun hh => by
    unfold Oper.quietAt; rw [hh]; exact ⟨rfl, rfl⟩
  cases hoo : o.op with
  | move x =>
    rw [hoo] at h
    exact ⟨_, h, _, evalS_sound hR x, fun w1 _ => still (by simp [execOp, hoo])⟩
  | assign x =>
    rw [hoo] at h
    exact ⟨_, h, _, evalS_sound hR x, fun w1 _ => still (by simp [execOp, hoo])⟩
  | extract x k =>
    rw [hoo] at h
    have hx := evalS_sound hR x
    simp only [softC] at h
    split at h
    · rename_i l he
      split at h
      · rename_i s hs'
        rw [he] at hx; simp only [SRel] at hx
        obtain ⟨us, h1, h2⟩ := hx
        obtain ⟨u, h3, h4⟩ := STup_get h2 hs'
        exact ⟨s, h, u, h4, fun w1 _ => still (by simp [execOp, hoo, h1, Instr.extract, h3])⟩
      · cases h
    · cases h
  | load t p =>
    rw [hoo] at h hl
    simp only [looseM] at hl
    split at hl
    · rename_i b path hev
      obtain ⟨s, h1, u, h2, h3⟩ := loose_load hT hR t p (by simp [looseB, hev]) h
      exact ⟨s, h1, u, h2, fun w1 hw1 => still (h3 o hoo w1 hw1)⟩
    · rename_i k v hev
      obtain ⟨s, h1, u, h2, h3⟩ := loose_ref hT hR t p hev h
      exact ⟨s, h1, u, h2, fun w1 hw1 => still (h3 o hoo w1 hw1)⟩
    · cases hl
  | call c =>
    obtain ⟨cal, args, ts⟩ := c
    cases cal with
    | builtin b =>
      cases b with
      | len =>
        rw [hoo] at h
        obtain ⟨s, h1, u, h2, h3⟩ := len_any hT hR args ts h
        exact ⟨s, h1, u, h2, fun w1 _ => still (h3 o hoo w1)⟩
      | _ => simp [hoo, looseM] at hl
    | _ => simp [hoo, looseM] at hl
  | _ => simp [hoo, looseM] at hl
/-- an operation that writes nothing but rows -/
theorem opS_rows (hT : TypesOK P cx) (hF : FnsOK P G cx) (hG : ∀ w', Frame0 w0 O0 w' → G w') (hR : Rel st a m w0 O0 n) (hd : ∀ t, o.dst = some t → t < n ∧ O0.fx t = none) (hmx : mixOp cx o.op = true) (h : opS cx st o K = some r) :
    ∃ st', K st' = some r ∧ ∃ Z, HOpR P o a m st' w0 O0 n Z ∧ ∀ b, Z b → RowB m b := by
  unfold opS at h
  cases hs : soft cx o.op with
  | true =>
    rw [hs, cond_true] at h
    obtain ⟨s, h1, u, h2, h3⟩ := softC_sound hT hF hG hR o.op hs h
    refine ⟨_, h1, fun _ => False, fun next Q hn => ?_, fun _ hb => hb.elim⟩
    refine Oper.wp_of_quiet (C := Grow m.w) (K := fun a' => a' = a.put o.dst u) (Grow.refl m.w) ?_ ⟨u, fun w' hw' => quiet_weak hw' (h3 o rfl w' hw'), rfl⟩
    rintro a' w' hw' rfl
    exact hn _ (m.at w') ((hR.put o.dst hd h2).grow hw') ⟨hw'.os, hw'.tape, hw'.output, hw'.size, fun b hb _ => hw'.block b hb⟩ fun b hb => .inl hb
  | false =>
    rw [hs, cond_false] at h
    simp only [mixOp, hs, Bool.false_or] at hmx
    cases ho : o.op with
    | buildSlice t k ps => obtain ⟨s, h1, h2⟩ := hard_buildSlice hT hR hd ho h; exact ⟨s, h1, _, h2, fun _ hb => hb.elim⟩
    | makeFunc g first caps =>
      cases g with
      | func g => obtain ⟨s, h1, h2⟩ := hard_makeFunc hR hd ho h; exact ⟨s, h1, _, h2, fun _ hb => hb.elim⟩
      | _ => simp [ho] at hmx
    | call c =>
      obtain ⟨cal, args, ts⟩ := c
      cases cal with
      | value f =>
        have hpf : pfOf cx f = none := by
          simp only [ho, Option.isNone_iff_eq_none] at hmx
          exact hmx
        obtain ⟨s, h1, Z, h2, _, h3⟩ := hard_call hF hG hR hd ho hpf h; exact ⟨s, h1, Z, h2, h3⟩
      | builtin b =>
        cases b with
        | append => obtain ⟨s, h1, h2⟩ := hard_append hT hR hd ho h; exact ⟨s, h1, _, h2, fun _ hb => hb⟩
        | _ => simp [ho] at hmx
      | _ => simp [ho] at hmx
    | _ => simp [ho] at hmx
theorem wpAnyG_weak {ops : Array Oper} {Gr Gr' : Nat → World → World → Prop} {H0 H1 : List Nat} {N : Nat} {Q : Act → World → Prop} (h1 : ∀ i ∈ H0, i ∈ H1) (h2 : ∀ i ∈ H0, ∀ w w', Gr' i w w' → Gr i w w') :
    ∀ (f : Nat) (listed : Array Bool) (a : Act) (w : World), wpAnyG P ops Gr' H1 N Q f listed a w → wpAnyG P ops Gr H0 N Q f listed a w
  | 0, _, _, _, h => h
  | f + 1, _, _, _, h => fun w1 hg1 => ⟨(h w1 hg1).1, fun j hj => ((h w1 hg1).2 j hj).mono fun a' w' h' => ⟨fun i hi hr => h2 i hi _ _ (h'.1 i (h1 i hi) hr), wpAnyG_weak h1 h2 f _ a' w' h'.2⟩⟩
/-- a region with guards, in such an order -/
theorem region_mix (hT : TypesOK P cx) (hF : FnsOK P G cx) (hG : ∀ w', Frame0 w0 O0 w' → G w') {ops : Array Oper} {Q : Act → World → Prop} (hQ : ∀ st' a' m', Rel st' a' m' w0 O0 n → K st' = some r → Q a' m'.w)
    (hd : ∀ o ∈ ops.toList, ∀ t, o.dst = some t → t < n ∧ O0.fx t = none) (hsel : Region.noSelect ops = true) :
    ∀ (f : Nat) (listed : Array Bool) (S : List (Nat × Bool)) (st : St) (a : Act) (m : Mem) (Gr : Nat → World → World → Prop) (H0 : List Nat), mixL cx ops f listed = some S → Closed ops listed → Rel st a m w0 O0 n →
      (∀ k ∈ H0, listed.getD k false = true) → (∀ k w w', Grow w w' → Gr k w w') → (∀ k w w' w'', Gr k w w' → Gr k w' w'' → Gr k w w'') →
      (∀ k ∈ H0, ∀ w w', Frame0 w (fun b => RowB m b ∨ m.w.heap.size ≤ b) w' → Gr k w w') → mixS cx ops S st K = some r → wpAnyG P ops Gr H0 0 Q f listed a m.w
  | 0, listed, S, st, a, m, Gr, H0, hS, hcl, hR, hH, hgr, htr, hfr, h => by
    simp only [mixL] at hS
    split at hS
    · rename_i hr
      cases hS
      exact ⟨hr, fun w' hg => hQ st a (m.at w') (hR.grow hg) h⟩
    · cases hS
  | f + 1, listed, S, st, a, m, Gr, H0, hS, hcl, hR, hH, hgr, htr, hfr, h => by
    simp only [mixL] at hS
    split at hS
    · rename_i hr
      cases hS
      exact fun w1 hg1 => ⟨fun _ => hQ st a (m.at w1) (hR.grow hg1) h, fun j hj => by rw [hr] at hj; cases hj⟩
    · -- the only one ready
      rename_i j hr
      split at hS
      · rename_i o hj
        cases hmx : mixOp cx o.op with
        | false => rw [hmx] at hS; cases hS
        | true =>
        rw [hmx, cond_true] at hS
        split at hS
        · rename_i S' hS'
          cases hS
          have hmem : j ∈ Region.ready .any ops listed := by rw [hr]; exact List.mem_singleton.2 rfl
          have hdo := hd o (Array.mem_toList_iff.2 (Array.mem_of_getElem? hj))
          simp only [mixS, hj] at h
          intro w1 hg1
          refine ⟨fun h0 => (by rw [hr] at h0; cases h0), fun i hi => ?_⟩
          rw [hr] at hi
          obtain rfl := List.mem_singleton.1 hi
          refine ⟨o, hj, ?_⟩
          have hR1 := hR.grow hg1
          have hH' : ∀ k ∈ H0, (listed.setIfInBounds i true).getD k false = true := fun k hk => getD_set_true (hH k hk)
          -- what comes then
          have next : ∀ (st' : St) (a' : Act) (m' : Mem), Rel st' a' m' w0 O0 n → Frame0 w1 (RowB m) m'.w → (∀ b, RowB m' b → RowB m b ∨ w1.heap.size ≤ b) → mixS cx ops S' st' K = some r →
              (∀ k ∈ H0, reachB ops 0 i k = false → Gr k w1 m'.w) ∧ wpAnyG P ops Gr H0 0 Q f (listed.setIfInBounds i true) a' m'.w := by
            intro st' a' m' hR' hf' hrow hst'
            have hsz : m.w.heap.size ≤ m'.w.heap.size := Nat.le_trans hg1.size hf'.size
            refine ⟨fun k hk _ => hfr k hk _ _ ⟨hf'.os, hf'.tape, hf'.output, hf'.size, fun b hb hz => hf'.block b hb fun hz' => hz (.inl hz')⟩, ?_⟩
            refine region_mix hT hF hG hQ hd hsel f _ S' st' a' m' Gr H0 hS' (hcl.set hmem) hR' hH' hgr htr (fun k hk w w' hf2 => hfr k hk w w' ⟨hf2.os, hf2.tape, hf2.output, hf2.size, fun b hb hz => hf2.block b hb fun hz' => hz ?_⟩) hst'
            rcases hz' with hz' | hz'
            · rcases hrow b hz' with h3 | h3
              · exact .inl h3
              · exact .inr (Nat.le_trans hg1.size h3)
            · exact .inr (Nat.le_trans hsz hz')
          have run : ∀ st1 : St, Rel st1 a (m.at w1) w0 O0 n → opM cx st1 false o (fun st => mixS cx ops S' st K) = some r →
              Oper.wp P o a w1 (fun a' w' => (∀ k ∈ H0, reachB ops 0 i k = false → Gr k w1 w') ∧ wpAnyG P ops Gr H0 0 Q f (listed.setIfInBounds i true) a' w') (fun _ _ _ => False) := by
            intro st1 hR2 hc
            unfold opM at hc
            rw [Bool.not_false, Bool.true_or, cond_true] at hc
            obtain ⟨st', h1, Z, h2, h3⟩ := opS_rows hT hF hG hR2 hdo hmx hc
            exact h2 _ _ fun a' m' hR' hf' hrow => next st' a' m' hR' ⟨hf'.os, hf'.tape, hf'.output, hf'.size, fun b hb hz => hf'.block b hb fun hz' => hz (h3 b hz')⟩ hrow h1
          split at h
          · rename_i hgd
            rw [if_pos (by simp [Region.wanted, hgd])]
            exact run st hR1 h
          · rename_i jj want hgd
            split at h
            · cases h
            · rename_i g hg
              have key : ∀ b : Bool, a.tmps.getD g undef = .bool b → cond (b == want) (opM cx (known st g b) false o fun st => mixS cx ops S' st K) (mixS cx ops S' ((known st g b).put o.dst .undef) K) = some r →
                  (if Region.wanted o (yielded ops a.tmps) = true then Oper.wp P o a w1 (fun a' w' => (∀ k ∈ H0, reachB ops 0 i k = false → Gr k w1 w') ∧ wpAnyG P ops Gr H0 0 Q f (listed.setIfInBounds i true) a' w') (fun _ _ _ => False) else (∀ k ∈ H0, reachB ops 0 i k = false → Gr k w1 w1) ∧ wpAnyG P ops Gr H0 0 Q f (listed.setIfInBounds i true) (a.put o.dst undef) w1) := by
                intro b hb hc
                have hy := yielded_eq (a := a) hg hb
                have hRk := hR1.known hb
                cases hbw : (b == want) with
                | true =>
                  rw [hbw, cond_true] at hc
                  have : b = want := by simpa using hbw
                  rw [if_pos (by simp [Region.wanted, hgd, hy, this])]
                  exact run _ hRk hc
                | false =>
                  rw [hbw, cond_false] at hc
                  have : b ≠ want := by simpa using hbw
                  rw [if_neg (by simp [Region.wanted, hgd, hy, this])]
                  exact next _ _ (m.at w1) (hRk.put o.dst hdo (SRel.undef' _)) (Frame0.refl _ _) (fun b hb => .inl hb) hc
              split at h
              · rename_i hun
                have hu := hR.slot g
                rw [hun] at hu
                have hu' : a.tmps.getD g undef = undef := by simpa only [SRel] using hu
                rw [if_neg (by simp [Region.wanted, hgd, yielded_none hg hu'])]
                exact next _ _ (m.at w1) (hR1.put o.dst hdo (SRel.undef' _)) (Frame0.refl _ _) (fun b hb => .inl hb) h
              · rcases split_some (hR.slot g) h with ⟨h1, h2⟩ | ⟨h1, h2⟩
                · exact key true h1 h2
                · exact key false h1 h2
        · cases hS
      · cases hS
    · -- what only reads
      split at hS
      · rename_i i hi
        have hfi := List.find?_some hi
        have hmem : i ∈ Region.ready .any ops listed := List.mem_of_find?_eq_some hi
        simp only [Bool.and_eq_true] at hfi
        obtain ⟨hfree, ho⟩ := hfi
        cases hj : ops[i]? with
        | none => rw [hj] at ho; cases ho
        | some o =>
        rw [hj] at ho
        simp only [Bool.and_eq_true] at ho
        split at hS
        · rename_i S' hS'
          cases hS
          have hdo := hd o (Array.mem_toList_iff.2 (Array.mem_of_getElem? hj))
          simp only [mixS, hj] at h
          have hun := (mem_ready.1 hmem).1
          have hiH : ∀ k ∈ H0, k ≠ i := fun k hk e => by
            have := hH k hk
            rw [e, getD_both hun] at this
            cases this
          let Gr' : Nat → World → World → Prop := fun k w w' => if k = i then Frame0 w (fun b => RowB m b ∨ m.w.heap.size ≤ b) w' else Gr k w w'
          have hgr' : ∀ k w w', Grow w w' → Gr' k w w' := by
            intro k w w' hg
            by_cases hk : k = i
            · show (if k = i then _ else _); rw [if_pos hk]; exact ⟨hg.os, hg.tape, hg.output, hg.size, fun b hb _ => hg.block b hb⟩
            · show (if k = i then _ else _); rw [if_neg hk]; exact hgr k w w' hg
          have htr' : ∀ k w w' w'', Gr' k w w' → Gr' k w' w'' → Gr' k w w'' := by
            intro k w w' w'' h1 h2
            by_cases hk : k = i
            · have h1 : (if k = i then _ else _) := h1
              have h2 : (if k = i then _ else _) := h2
              rw [if_pos hk] at h1 h2
              show (if k = i then _ else _); rw [if_pos hk]
              exact ⟨h2.os.trans h1.os, ⟨h2.tape.1.trans h1.tape.1, fun hs => Nat.le_trans (h1.tape.2 hs) (h2.tape.2 hs)⟩, h2.output.trans h1.output, Nat.le_trans h1.size h2.size, fun b hb hz => (h2.block b (Nat.lt_of_lt_of_le hb h1.size) hz).trans (h1.block b hb hz)⟩
            · have h1 : (if k = i then _ else _) := h1
              have h2 : (if k = i then _ else _) := h2
              rw [if_neg hk] at h1 h2
              show (if k = i then _ else _); rw [if_neg hk]
              exact htr k w w' w'' h1 h2
          have hi' : ∀ w w', Gr' i w w' → Frame0 w (fun b => RowB m b ∨ m.w.heap.size ≤ b) w' := fun w w' h1 => by
            have h1 : (if i = i then _ else _) := h1
            rwa [if_pos rfl] at h1
          have next : ∀ (st' : St) (v : Value), Rel st' (a.put o.dst v) m w0 O0 n → YieldsG P ops (Gr' i) o v a m.w → mixS cx ops S' st' K = some r → wpAnyG P ops Gr H0 0 Q (f + 1) listed a m.w := by
            intro st' v hR' hy hst'
            have ih := region_mix hT hF hG hQ hd hsel f (listed.setIfInBounds i true) S' st' _ m Gr' (i :: H0) hS' (hcl.set hmem) hR' (fun k hk => ?_) hgr' htr' (fun k hk w w' hf2 => ?_) hst'
            · refine wpAnyG_weak (fun k hk => List.mem_cons_of_mem _ hk) (fun k hk w w' h1 => ?_) _ _ _ _ (wpAnyG_first hgr' htr' (List.mem_cons_self ..) hj (Region.noSelect_spec hsel) f listed a m.w hcl (Region.free_spec hj hfree) hmem hy ih)
              have h1 : (if k = i then _ else _) := h1
              rwa [if_neg (hiH k hk)] at h1
            · rcases List.mem_cons.1 hk with rfl | hk
              · have hlt : k < listed.size := by
                  have := (mem_ready.1 hmem).2
                  obtain ⟨_, h5, _⟩ := this
                  rw [hcl.1]; exact (Array.getElem?_eq_some_iff.1 h5).1
                simp [Array.getD_eq_getD_getElem?, Array.getElem?_setIfInBounds_self_of_lt hlt]
              · exact getD_set_true (hH k hk)
            · by_cases hki : k = i
              · show (if k = i then _ else _); rw [if_pos hki]; exact hf2
              · show (if k = i then _ else _); rw [if_neg hki]
                exact hfr k ((List.mem_cons.1 hk).resolve_left hki) w w' hf2
          have run : ∀ st1 : St, Rel st1 a m w0 O0 n → Region.wanted o (yielded ops a.tmps) = true → opM cx st1 true o (fun st => mixS cx ops S' st K) = some r → wpAnyG P ops Gr H0 0 Q (f + 1) listed a m.w := by
            intro st1 hR2 hw hc
            unfold opM at hc
            rw [Bool.not_true, Bool.false_or] at hc
            cases hlo : looseM st1 o.op with
            | false => rw [hlo] at hc; cases hc
            | true =>
              rw [hlo, cond_true] at hc
              unfold opS at hc
              rw [ho.1, cond_true] at hc
              obtain ⟨s, h1, u, h2, h3⟩ := loose_mix hT hF hG hR2 o hlo hc
              exact next _ u (hR2.put o.dst hdo h2) (.inl ⟨hw, fun w1 hw1 => h3 w1 (by have hw2 := hi' _ _ hw1; exact ⟨hw2.os, hw2.tape, hw2.output, hw2.size, fun b hb hn => hw2.block b hb fun hn' => hn (hn'.imp id .inr)⟩)⟩) h1
          split at h
          · rename_i hgd
            exact run st hR (by simp [Region.wanted, hgd]) h
          · rename_i jj want hgd
            split at h
            · cases h
            · rename_i g hg
              have key : ∀ b : Bool, a.tmps.getD g undef = .bool b → cond (b == want) (opM cx (known st g b) true o fun st => mixS cx ops S' st K) (mixS cx ops S' ((known st g b).put o.dst .undef) K) = some r → wpAnyG P ops Gr H0 0 Q (f + 1) listed a m.w := by
                intro b hb hc
                have hy := yielded_eq (a := a) hg hb
                have hRk := hR.known hb
                cases hbw : (b == want) with
                | true =>
                  rw [hbw, cond_true] at hc
                  have : b = want := by simpa using hbw
                  exact run _ hRk (by simp [Region.wanted, hgd, hy, this]) hc
                | false =>
                  rw [hbw, cond_false] at hc
                  have : b ≠ want := by simpa using hbw
                  exact next _ _ (hRk.put o.dst hdo (SRel.undef' _)) (.inr ⟨by simp [Region.wanted, hgd, hy, this], rfl⟩) hc
              split at h
              · rename_i hun
                have hu := hR.slot g
                rw [hun] at hu
                have hu' : a.tmps.getD g undef = undef := by simpa only [SRel] using hu
                exact next _ _ (hR.put o.dst hdo (SRel.undef' _)) (.inr ⟨by simp [Region.wanted, hgd, yielded_none hg hu'], rfl⟩) h
              · rcases split_some (hR.slot g) h with ⟨h1, h2⟩ | ⟨h1, h2⟩
                · exact key true h1 h2
                · exact key false h1 h2
        · cases hS
      · cases hS
end
end Go.Fm
