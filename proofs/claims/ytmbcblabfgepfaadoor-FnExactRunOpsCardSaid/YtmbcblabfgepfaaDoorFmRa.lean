/- A region that draws its order: variables that are made for themselves may be made at any time. -/
import Derived.Test.YtmbcblabfgepfaaDoorFmU
set_option autoImplicit true
set_option linter.unusedVariables false
set_option linter.unusedSimpArgs false
set_option linter.unusedSectionVars false
namespace Go.Fm
variable [Strict]

section
variable {P : Program} {cx : Ctx} {st st' : St} {a : Act} {m m' : Mem} {w0 : World} {O0 : OX} {n : Nat} {R : Type} {r : R} {G : World → Prop} {o : Oper} {K : St → Option R}

theorem nodup_map_inj {α β : Type} {f : α → β} : ∀ {l : List α}, (l.map f).Nodup → ∀ {x y : α}, x ∈ l → y ∈ l → f x = f y → x = y
  | [], _, x, y, hx, _, _ => by cases hx
  | z :: l, h, x, y, hx, hy, e => by
    simp only [List.map_cons, List.nodup_cons, List.mem_map, not_exists, not_and] at h
    rcases List.mem_cons.1 hx with hx1 | hx1 <;> rcases List.mem_cons.1 hy with hy1 | hy1
    · rw [hx1, hy1]
    · subst hx1; exact absurd e.symm (h.1 y hy1)
    · subst hy1; exact absurd e (h.1 x hx1)
    · exact nodup_map_inj h.2 hx1 hy1 e
theorem nodup_sub_len {α : Type} [DecidableEq α] : ∀ {l l' : List α}, l.Nodup → (∀ x ∈ l, x ∈ l') → l.length ≤ l'.length
  | [], _, _, _ => Nat.zero_le _
  | x :: l, l', h, hs => by
    obtain ⟨h1, h2⟩ := List.nodup_cons.1 h
    have hx := hs x (by simp)
    have := nodup_sub_len (l' := l'.erase x) h2 fun y hy => (List.mem_erase_of_ne (fun e => by subst e; exact h1 hy)).2 (hs y (by simp [hy]))
    rw [List.length_erase_of_mem hx] at this
    have : 0 < l'.length := List.length_pos_of_mem hx
    simp only [List.length_cons]; omega
/-- what such an operation yields, and what its block holds -/
def earlyV (op : Op) (b : Nat) : Value := match op with | .alloc _ => .pointer (some ⟨b, 0, none⟩) | _ => .slice (some ⟨b, 0, none⟩) 0 0
def earlyC (cx : Ctx) (op : Op) : List Value := match op with | .alloc t => zcells (cx.kd t) | _ => []
def earlyT (cx : Ctx) (op : Op) : TypeId := match op with | .alloc t => t | .buildSlice t _ _ => cx.elem t | _ => 0
theorem early_run (hT : TypesOK P cx) (he : earlyOp cx o.op = true) (w' : World) : ∃ blk : Array Value, blk.toList = earlyC cx o.op ∧ (execOp a.eval o).run P w' = .ok (.value (earlyV o.op w'.heap.size)) (w'.alloc (.cells blk (earlyT cx o.op))) := by
  cases hop : o.op with
  | alloc t =>
    rw [hop] at he
    have he : plain (cx.kd t) = true := by simp only [earlyOp, Bool.and_eq_true] at he; exact he.1
    obtain ⟨z, h3, h4, h5, h6⟩ := (plain_of hT he).2.2.zero
    refine ⟨z.cells, h4, ?_⟩
    simp [execOp, hop, Instr.alloc, h3 w', newVar, newRow, earlyV, earlyT]
  | buildSlice t k ps =>
    rw [hop] at he
    simp only [earlyOp, Bool.and_eq_true] at he
    obtain ⟨⟨hk0, hps⟩, hkd⟩ := he
    have hk0 : k = 0 := Nat.eq_of_beq_eq_true hk0
    subst hk0
    have hps : ps = #[] := by apply Array.toList_inj.1; simpa using hps
    subst hps
    split at hkd
    · rename_i e hk
      obtain ⟨te, g2, g3, g4, g5, g6, g7⟩ := kd_slice hT hk.symm
      obtain ⟨i, z, g8, g9, g10, g11, g12, g13⟩ := g4.ex
      have hel := hT.elem t te e g2 hk
      refine ⟨#[], rfl, ?_⟩
      simp only [execOp, hop, Instr.buildSlice, Sem.run_bind, run_underlying g2, Result.andThen_ok, g4.sizeOf w', earlyV, earlyT, hel]
      simp [newRow, Instr.fill, hel]
      rw [show Array.range 0 = #[] from by simp [Array.range]]
      simp
    · cases hkd
  | _ => rw [hop] at he; cases he
theorem early_told (hT : TypesOK P cx) (he : earlyOp cx o.op = true) {x : Nat} (hx : o.dst = some x) (h : opS cx st o K = some r) : ∃ (N : Nat) (nd : Node) (y : Slot) (st1 : St) (loc : Nat → Value), st.make N nd = some st1 ∧ K (st1.put (some x) y) = some r ∧
    (∀ b c, Blk (loc b) c ↔ c = b) ∧ (∀ (m' : Mem) (b : Nat) (blk : Array Value), blk.toList = earlyC cx o.op → m'.w.heap[b]? = some (.cells blk (earlyT cx o.op)) → m'.loc N = loc b → NodeRel m' N nd) ∧
    ∀ (m' : Mem) (b : Nat), m'.used N = true → m'.nodes N = some nd → m'.loc N = loc b → SRel m' y (earlyV o.op b) := by
  unfold opS at h
  cases hop : o.op with
  | alloc t =>
    rw [hop] at he
    simp only [earlyOp, Bool.and_eq_true, Bool.not_eq_true'] at he
    obtain ⟨hpl, harr⟩ := he
    have hsf : soft cx o.op = false := by rw [hop]; rfl
    rw [hsf, cond_false] at h
    simp only [hardC, hop] at h
    rw [harr, cond_false, if_pos hpl] at h
    obtain ⟨st1, h1, h2⟩ := born_some h
    rw [hx] at h1 h2
    refine ⟨_, _, _, st1, fun b => .pointer (some ⟨b, 0, none⟩), h1, h2, fun b c => by simp [Blk, blkOf, eq_comm], fun m' b blk hz hb hl => ?_, fun m' b hu hn hl => ?_⟩
    · obtain ⟨u, h7, h8, h9, h10⟩ := (zero_sound (m := m') (cx.kd t)).1 (tyOK_wf hT hpl)
      exact ⟨b, blk, t, u, hl, hb, by apply Array.toList_inj.1; rw [h7]; exact hz.symm, h8, h9, h10⟩
    · simp only [SRel]
      refine ⟨hu, fun k c hn' => ?_⟩
      rw [hn] at hn'
      simp only [Option.some.injEq, Node.var.injEq] at hn'
      obtain ⟨rfl, rfl⟩ := hn'
      exact ⟨b, 0, _, hl, rfl, rfl⟩
  | buildSlice t k ps =>
    rw [hop] at he
    simp only [earlyOp, Bool.and_eq_true] at he
    obtain ⟨⟨hk0, hps⟩, hkd⟩ := he
    have hk0 : k = 0 := Nat.eq_of_beq_eq_true hk0
    subst hk0
    have hps : ps = #[] := by apply Array.toList_inj.1; simpa using hps
    subst hps
    have hsf : soft cx o.op = false := by rw [hop]; rfl
    rw [hsf, cond_false] at h
    split at hkd
    · rename_i e hk
      simp only [Bool.and_eq_true] at hkd
      obtain ⟨hwf, hdeep⟩ := hkd
      have hrow : ∀ (m' : Mem) (b : Nat) (blk : Array Value), blk.toList = [] → m'.w.heap[b]? = some (.cells blk (cx.elem t)) → m'.w.ownsRow 0 (cx.elem t) (width e) (.slice (some ⟨b, 0, none⟩) 0 0) 0 [] := fun m' b blk hz hb => by
        have hz2 : blk = #[] := by apply Array.toList_inj.1; simpa using hz
        subst hz2
        exact ⟨by simp, .inr ⟨b, 0, #[], rfl, by omega, hb, by omega, by simp [maxLen], by simp, by simp⟩⟩
      cases hdp : cx.dp t with
      | none =>
        simp only [hardC, hop, hk, hdp] at h
        split at h
        · obtain ⟨l, nd, h1, h2, h⟩ := laid_some h
          have hl : l = [] := by simpa [partsS, listT] using h1.symm
          have hnd : nd = st.nodes := by simpa [partsS, kills] using h2.symm
          subst hl; subst hnd
          obtain ⟨st1, h3, h4⟩ := born_some h
          rw [hx] at h3 h4
          refine ⟨_, _, _, st1, fun b => .slice (some ⟨b, 0, none⟩) 0 0, h3, h4, fun b c => by simp [Blk, blkOf, eq_comm], fun m' b blk hz hb hl => ?_, fun m' b hu hn hl => ?_⟩
          · refine ⟨[], ?_, rfl⟩
            rw [hl]; exact hrow m' b blk hz hb
          · simp only [SRel]
            exact ⟨hu, ⟨_, _, _, rfl⟩, fun _ _ _ _ => hl.symm⟩
        · cases h
      | some ts =>
        rw [hdp] at hdeep
        simp only [hardC, hop, hk, hdp] at h
        cases hc : (Nat.beq 0 0 && deepB e ts) with
        | false => rw [hc] at h; cases h
        | true =>
          rw [hc, cond_true] at h
          obtain ⟨st1, h3, h4⟩ := born_some h
          rw [hx] at h3 h4
          refine ⟨_, _, _, st1, fun b => mkLoc (.slice (some ⟨b, 0, none⟩) 0 0) [], h3, h4, fun b c => ?_, fun m' b blk hz hb hl => ?_, fun m' b hu hn hl => ?_⟩
          · rw [Blk_mk (by simp)]
            simp [blkOf, eq_comm]
          · show DeepR m'.w m'.O _ _ _ (m'.loc _) _ _
            rw [hl]
            have := deep_zeros (w := m'.w) (O := m'.O) (k := 0) hdeep hwf (by simpa using hrow m' b blk hz hb)
            simpa using this
          · simp only [SRel]
            exact ⟨hu, by rw [hl]; exact hdr_mk _ _, _, _, _, rfl⟩
    · cases hkd
  | _ => rw [hop] at he; cases he
/-- variables that the code has made, and that are not told yet: operation, temporary, block -/
structure RelD (cx : Ctx) (ops : Array Oper) (st : St) (a : Act) (m : Mem) (w0 : World) (O0 : OX) (n : Nat) (D : List (Nat × Nat × Nat)) (w1 : World) (O1 : OX) : Prop where
  rel : Rel st a m w1 O1 n
  fr : Frame0 w0 O0 w1
  own : ∀ b, O1 b → w0.heap.size ≤ b ∨ O0 b
  far : ∀ b, O0.X b → b < w0.heap.size ∧ ¬ O0 b
  x : ∀ b, O1.X b ↔ (O0.X b ∨ ∃ p ∈ D, p.2.2 = b)
  fx1 : ∀ p ∈ D, ∀ o, ops[p.1]? = some o → O1.fx p.2.1 = some (earlyV o.op p.2.2)
  fx2 : ∀ t, (∀ p ∈ D, p.2.1 ≠ t) → O1.fx t = O0.fx t
  don : ∀ p ∈ D, (∃ o, ops[p.1]? = some o ∧ earlyOp cx o.op = true ∧ o.dst = some p.2.1 ∧ ∃ blk, w1.heap[p.2.2]? = some (.cells blk (earlyT cx o.op)) ∧ blk.toList = earlyC cx o.op) ∧ w0.heap.size ≤ p.2.2
  nd1 : (D.map (·.1)).Nodup
  nd2 : (D.map (·.2.1)).Nodup
  nd3 : (D.map (·.2.2)).Nodup
variable {ops : Array Oper} {D : List (Nat × Nat × Nat)} {w1 : World} {O1 : OX}
theorem RelD.start (h : Rel st a m w0 O0 n) : RelD cx ops st a m w0 O0 n [] w0 O0 :=
  ⟨h, Frame0.refl _ _, fun b hb => .inr hb, fun b hb => h.ok.far b (by rw [h.ok.keeps]; exact hb), fun b => by simp, by simp, fun _ _ => rfl, by simp, by simp, by simp, by simp⟩
theorem RelD.frame (h : RelD cx ops st a m w0 O0 n D w1 O1) {w' : World} (hf : Frame0 w1 O1 w') : Frame0 w0 O0 w' := h.fr.trans' hf h.own
theorem RelD.out (h : RelD cx ops st a m w0 O0 n [] w1 O1) : Rel st a m w0 O0 n where
  nodes := h.rel.nodes
  used := h.rel.used
  ok := ⟨h.rel.ok.node, h.rel.ok.used, h.rel.ok.inj, h.frame h.rel.ok.frame, fun b hb => by
    rcases h.rel.ok.base b hb with h1 | h1
    · exact .inl (Nat.le_trans h.fr.size h1)
    · exact h.own b h1, by
    rw [h.rel.ok.keeps]
    funext b
    have := h.x b
    simp at this
    exact propext this, fun b hb => h.far b (by
      rw [h.rel.ok.keeps] at hb
      have := (h.x b).1 hb
      simpa using this)⟩
  slot := h.rel.slot
  defers := h.rel.defers
  size := h.rel.size
  fixed := fun t v hv => h.rel.fixed t v (by rw [h.fx2 t (by simp)]; exact hv)
/-- another state of the same calls -/
theorem RelD.next (h : RelD cx ops st a m w0 O0 n D w1 O1) {st' : St} {a' : Act} {m' : Mem} (h' : Rel st' a' m' w1 O1 n) : RelD cx ops st' a' m' w0 O0 n D w1 O1 := ⟨h', h.fr, h.own, h.far, h.x, h.fx1, h.fx2, h.don, h.nd1, h.nd2, h.nd3⟩
theorem RelD.blk (h : RelD cx ops st a m w0 O0 n D w1 O1) {p : Nat × Nat × Nat} (hp : p ∈ D) : p.2.2 < w1.heap.size ∧ ¬ O1 p.2.2 ∧ m.X p.2.2 := by
  have hx : m.X p.2.2 := by rw [h.rel.ok.keeps]; exact (h.x _).2 (.inr ⟨p, hp, rfl⟩)
  have := h.rel.ok.far _ hx
  exact ⟨this.1, this.2, hx⟩
theorem Act.getD_put {a : Act} {x t : Nat} {v : Value} (hx : x < a.tmps.size) : (a.put (some x) v).tmps.getD t undef = if t = x then v else a.tmps.getD t undef := by
  simp only [Act.put, Array.getD_eq_getD_getElem?]
  by_cases h : t = x
  · subst h; simp [hx]
  · rw [if_neg h, Array.getElem?_setIfInBounds_ne (Ne.symm h)]
/-- a variable is made, and not told -/
theorem RelD.give (h : RelD cx ops st a m w0 O0 n D w1 O1) {i x : Nat} {o : Oper} (hi : ops[i]? = some o) (ho : earlyOp cx o.op = true) (hx : o.dst = some x) (hxn : x < n) (hdead : st.slots x = .dead) (hnew : ∀ p ∈ D, p.1 ≠ i ∧ p.2.1 ≠ x) {w' : World} (hg : Grow m.w w') {blk : Array Value} (hz : blk.toList = earlyC cx o.op) :
    RelD cx ops st (a.put (some x) (earlyV o.op w'.heap.size)) ⟨w'.alloc (.cells blk (earlyT cx o.op)), m.nodes, m.used, m.loc, fun b => m.X b ∨ b = w'.heap.size⟩ w0 O0 n ((i, x, w'.heap.size) :: D) (w'.alloc (.cells blk (earlyT cx o.op)))
      ⟨m.own, fun b => m.X b ∨ b = w'.heap.size, fun s => if s = x then some (earlyV o.op w'.heap.size) else O1.fx s⟩ := by
  have hal : Grow w' (w'.alloc (.cells blk (earlyT cx o.op))) := Grow.alloc w' _
  have hgg := hg.trans hal
  have hsz : (w'.alloc (.cells blk (earlyT cx o.op))).heap.size = w'.heap.size + 1 := by simp
  let m2 : Mem := ⟨w'.alloc (.cells blk (earlyT cx o.op)), m.nodes, m.used, m.loc, fun b => m.X b ∨ b = w'.heap.size⟩
  have hown : ∀ b, m2.own b ↔ m.own b := fun b => Iff.rfl
  have hle : m.le m2 := ⟨⟨fun b hb _ => hgg.block b hb, fun b hb hO => by
      rcases hO with hO | hO | hO
      · exact .inl hO
      · exact .inr hO
      · have := hg.size; omega⟩, fun _ h => h, fun _ _ => rfl, fun q nd _ hq => .inr ⟨nd, hq, shape.refl nd⟩⟩
  have hlt : ∀ b, m.own b → b < m.w.heap.size := fun b hb => h.rel.ok.O_lt (.inl hb)
  have hm0 : w1.heap.size ≤ m.w.heap.size := h.rel.ok.frame.size
  have hxs : x < a.tmps.size := by rw [h.rel.size]; exact hxn
  refine ⟨⟨h.rel.nodes, h.rel.used, ⟨fun q nd hq => (h.rel.ok.node q nd hq).mono hle (h.rel.ok.used q nd hq) fun b hb => hgg.block b ((h.rel.ok.node q nd hq).blk_lt hb), h.rel.ok.used, h.rel.ok.inj, Frame0.refl _ _, fun b hb => .inr hb, rfl, fun b hb => ?_⟩, fun s => ?_, ?_, ?_, fun s v hv => ?_⟩, ?_, fun b hb => ?_, h.far, fun b => ?_, fun p hp => ?_, fun s hs => ?_, fun p hp => ?_, ?_, ?_, ?_⟩
  · rw [hsz]
    have hg1 := hg.size
    rcases hb with hb | hb
    · have := h.rel.ok.far b hb
      exact ⟨by omega, fun ho => h.rel.ok.apart ho hb⟩
    · subst hb
      exact ⟨by omega, fun ho => by have := hlt _ ho; omega⟩
  · rw [Act.getD_put hxs]
    by_cases hs : s = x
    · subst hs; rw [hdead]; exact SRel.dead _ _
    · rw [if_neg hs]; exact SRel.mono hle _ (h.rel.slot s)
  · exact h.rel.defers
  · simp [Act.put, h.rel.size]
  · rw [Act.getD_put hxs]
    dsimp only at hv
    by_cases hs : s = x
    · rw [if_pos hs] at hv ⊢; exact Option.some.inj hv
    · rw [if_neg hs] at hv ⊢; exact h.rel.fixed s v hv
  · exact (h.frame h.rel.ok.frame).grow' hgg
  · rcases h.rel.ok.base b hb with h1 | h1
    · exact .inl (Nat.le_trans h.fr.size h1)
    · exact h.own b h1
  · show (m.X b ∨ b = w'.heap.size) ↔ _
    rw [h.rel.ok.keeps, h.x b]
    simp only [List.mem_cons, exists_eq_or_imp]
    constructor
    · rintro ((h1 | h1) | h1)
      · exact .inl h1
      · exact .inr (.inr h1)
      · exact .inr (.inl h1.symm)
    · rintro (h1 | h1 | h1)
      · exact .inl (.inl h1)
      · exact .inr h1.symm
      · exact .inl (.inr h1)
  · intro o' ho'
    rcases List.mem_cons.1 hp with rfl | hp
    · dsimp only at ho'
      rw [hi] at ho'; cases ho'
      simp
    · show (if p.2.1 = x then _ else _) = _
      rw [if_neg (hnew p hp).2]; exact h.fx1 p hp o' ho'
  · show (if s = x then _ else _) = _
    have h1 := hs _ (List.mem_cons_self ..)
    rw [if_neg (fun e => h1 e.symm)]
    exact h.fx2 s fun p hp => hs p (List.mem_cons_of_mem _ hp)
  · rcases List.mem_cons.1 hp with rfl | hp
    · refine ⟨⟨o, hi, ho, hx, blk, heap_alloc_new w' _, hz⟩, ?_⟩
      have := h.fr.size; have := hg.size; show w0.heap.size ≤ w'.heap.size; omega
    · obtain ⟨⟨o', e1, e2, e3, blk', e4, e5⟩, e6⟩ := h.don p hp
      obtain ⟨b1, b2, b3⟩ := h.blk hp
      refine ⟨⟨o', e1, e2, e3, blk', ?_, e5⟩, e6⟩
      rw [hgg.block _ (by omega), h.rel.ok.frame.block _ b1 b2, e4]
  · simp only [List.map_cons, List.nodup_cons]
    refine ⟨fun hc => ?_, h.nd1⟩
    obtain ⟨p, hp, e⟩ := List.mem_map.1 hc
    exact (hnew p hp).1 e
  · simp only [List.map_cons, List.nodup_cons]
    refine ⟨fun hc => ?_, h.nd2⟩
    obtain ⟨p, hp, e⟩ := List.mem_map.1 hc
    exact (hnew p hp).2 e
  · simp only [List.map_cons, List.nodup_cons]
    refine ⟨fun hc => ?_, h.nd3⟩
    obtain ⟨p, hp, e⟩ := List.mem_map.1 hc
    have := (h.blk hp).1
    have := hg.size
    omega
/-- a variable that was made is told -/
theorem RelD.take (hT : TypesOK P cx) (h : RelD cx ops st a m w0 O0 n D w1 O1) {i x b : Nat} {o : Oper} (hp : (i, x, b) ∈ D) (hi : ops[i]? = some o) (hx : o.dst = some x) (hfx : O0.fx x = none) {N : Nat} {nd0 : Node} {y : Slot} {st1 : St} {loc : Nat → Value} (hmk : st.make N nd0 = some st1) (hblk : ∀ b c, Blk (loc b) c ↔ c = b)
    (hnd0 : ∀ (m' : Mem) (b : Nat) (blk : Array Value), blk.toList = earlyC cx o.op → m'.w.heap[b]? = some (.cells blk (earlyT cx o.op)) → m'.loc N = loc b → NodeRel m' N nd0) (hy0 : ∀ (m' : Mem) (b : Nat), m'.used N = true → m'.nodes N = some nd0 → m'.loc N = loc b → SRel m' y (earlyV o.op b)) :
    ∃ m' O1', m'.w = m.w ∧ (∀ b, RowB m' b → RowB m b ∨ m.X b) ∧ (∀ b, m'.X b → m.X b) ∧ RelD cx ops (st1.put (some x) y) a m' w0 O0 n (D.erase (i, x, b)) w1 O1' := by
  obtain ⟨hm1, hm2, hm3, hm4⟩ := make_some hmk
  have hNu : m.used N = false := by rw [h.rel.used]; exact hm1
  obtain ⟨b1, b2, b3⟩ := h.blk hp
  obtain ⟨⟨o', e1, e2, e3, blk, e4, e5⟩, e6⟩ := h.don _ hp
  dsimp only at b1 b2 b3 e1 e2 e3 e4 e6
  rw [hi] at e1; cases e1
  have hheap : m.w.heap[b]? = some (.cells blk (earlyT cx o.op)) := (h.rel.ok.frame.block b b1 b2).trans e4
  have hfix : a.tmps.getD x undef = earlyV o.op b := h.rel.fixed x _ (h.fx1 _ hp o hi)
  have hDn : D.Nodup := List.Pairwise.of_map _ (fun p q hpq e => hpq (by rw [e])) h.nd1
  have hmem : ∀ p, p ∈ D.erase (i, x, b) ↔ p ≠ (i, x, b) ∧ p ∈ D := fun p => hDn.mem_erase_iff
  have hne3 : ∀ p ∈ D.erase (i, x, b), p.2.2 ≠ b := fun p hq e => by
    obtain ⟨g1, g2⟩ := (hmem p).1 hq
    have := h.nd3
    exact g1 (nodup_map_inj h.nd3 g2 hp e)
  have hne2 : ∀ p ∈ D.erase (i, x, b), p.2.1 ≠ x := fun p hq e => by
    obtain ⟨g1, g2⟩ := (hmem p).1 hq
    exact g1 (nodup_map_inj h.nd2 g2 hp e)
  let X' : Nat → Prop := fun c => O0.X c ∨ ∃ p ∈ D.erase (i, x, b), p.2.2 = c
  have hX' : ∀ c, X' c → m.X c := fun c hc => by
    rw [h.rel.ok.keeps]
    refine (h.x c).2 (hc.imp id ?_)
    rintro ⟨p, hq, e⟩
    exact ⟨p, ((hmem p).1 hq).2, e⟩
  have hXb : ¬ X' b := by
    rintro (hc | ⟨p, hq, e⟩)
    · have := (h.far b hc).1; omega
    · exact hne3 p hq e
  let m' : Mem := ⟨m.w, upd m.nodes N (some nd0), upd m.used N true, upd m.loc N (loc b), X'⟩
  let O1' : OX := ⟨fun c => O1 c ∨ c = b, X', fun s => if s = x then none else O1.fx s⟩
  have hnode : ∀ q nd, m'.nodes q = some nd → (q = N ∧ nd = nd0) ∨ (q ≠ N ∧ m.nodes q = some nd) := fun q nd hq => by
    by_cases hqN : q = N
    · subst hqN; simp only [m', upd_same, Option.some.injEq] at hq; exact .inl ⟨rfl, hq.symm⟩
    · simp only [m', upd_other _ _ hqN] at hq; exact .inr ⟨hqN, hq⟩
  have hlocN : m'.loc N = loc b := by simp [m', upd_same]
  have hlocO : ∀ q, q ≠ N → m'.loc q = m.loc q := fun q hq => by simp [m', upd_other _ _ hq]
  have hown' : ∀ c, m'.own c → m.own c ∨ c = b := by
    rintro c ⟨q, nd, hq, hb⟩
    rcases hnode q nd hq with ⟨rfl, rfl⟩ | ⟨h1, h2⟩
    · rw [hlocN] at hb; exact .inr ((hblk b c).1 hb)
    · rw [hlocO q h1] at hb; exact .inl ⟨q, nd, h2, hb⟩
  have hle : m.le m' := ⟨⟨fun _ _ _ => rfl, fun c _ hc => by
      rcases hc with hc | hc
      · rcases hown' c hc with h1 | rfl
        · exact .inl h1
        · exact .inr b3
      · exact .inr (hX' c hc)⟩, fun q hq => by
      by_cases hqN : q = N
      · subst hqN; simp [m', upd_same]
      · simpa [m', upd_other _ _ hqN] using hq, fun q hq => hlocO q fun e => (by subst e; rw [hNu] at hq; cases hq), fun q nd hq hn => by
      rcases hnode q nd hn with ⟨rfl, _⟩ | ⟨h1, h2⟩
      · rw [hNu] at hq; cases hq
      · exact .inr ⟨nd, h2, shape.refl nd⟩⟩
  refine ⟨m', O1', rfl, ?_, hX', ⟨⟨by simp only [m']; rw [h.rel.nodes]; show _ = (st1.put (some x) _).nodes; exact hm2.symm, by simp only [m']; rw [h.rel.used]; exact hm3.symm, ⟨fun q nd hq => ?_, fun q nd hq => ?_, fun q q' nd nd' c hq hq' hb hb' => ?_, ?_, fun c hc => ?_, rfl, fun c hc => ?_⟩, fun s => ?_, h.rel.defers, h.rel.size, fun s v hv => ?_⟩, h.fr, fun c hc => ?_, h.far, fun c => Iff.rfl, fun p hq => ?_, fun s hs => ?_, fun p hq => h.don p ((hmem p).1 hq).2, h.nd1.sublist ((List.erase_sublist).map _), h.nd2.sublist ((List.erase_sublist).map _), h.nd3.sublist ((List.erase_sublist).map _)⟩⟩
  · rintro c ⟨q, nd, hq, hr, hb⟩
    rcases hnode q nd hq with ⟨rfl, rfl⟩ | ⟨h1, h2⟩
    · rw [hlocN] at hb; rw [(hblk b c).1 hb]; exact .inr b3
    · rw [hlocO q h1] at hb; exact .inl ⟨q, nd, h2, hr, hb⟩
  · rcases hnode q nd hq with ⟨rfl, rfl⟩ | ⟨h1, h2⟩
    · exact hnd0 m' b blk e5 hheap hlocN
    · exact (h.rel.ok.node q nd h2).mono hle (h.rel.ok.used q nd h2) fun _ _ => rfl
  · rcases hnode q nd hq with ⟨rfl, rfl⟩ | ⟨h1, h2⟩
    · simp [m', upd_same]
    · exact hle.used q (h.rel.ok.used q nd h2)
  · rcases hnode q nd hq with ⟨rfl, rfl⟩ | ⟨h1, h2⟩ <;> rcases hnode q' nd' hq' with ⟨rfl, rfl⟩ | ⟨h3, h4⟩
    · rfl
    · rw [hlocN] at hb; rw [hlocO q' h3] at hb'
      have hb := (hblk b c).1 hb; subst hb
      exact (h.rel.ok.apart ⟨q', nd', h4, hb'⟩ b3).elim
    · rw [hlocN] at hb'; rw [hlocO q h1] at hb
      have hb' := (hblk b c).1 hb'; subst hb'
      exact (h.rel.ok.apart ⟨q, nd, h2, hb⟩ b3).elim
    · rw [hlocO q h1] at hb; rw [hlocO q' h3] at hb'
      exact h.rel.ok.inj q q' nd nd' c h2 h4 hb hb'
  · have := h.rel.ok.frame
    exact ⟨this.os, this.tape, this.output, this.size, fun c hc hn => this.block c hc fun ho => hn (.inl ho)⟩
  · rcases hown' c hc with h1 | rfl
    · exact (h.rel.ok.base c h1).imp id .inl
    · exact .inr (.inr rfl)
  · have h1 := h.rel.ok.far c (hX' c hc)
    refine ⟨h1.1, ?_⟩
    rintro (h2 | rfl)
    · exact h1.2 h2
    · exact hXb hc
  · show SRel m' (upd st1.slots x y s) _
    by_cases hs : s = x
    · subst hs
      rw [upd_same, hfix]
      exact hy0 m' b (by simp [m', upd_same]) (by simp [m', upd_same]) hlocN
    · rw [upd_other _ _ hs, hm4]
      exact SRel.mono hle _ (h.rel.slot s)
  · by_cases hs : s = x
    · have hv : (if s = x then none else O1.fx s) = some v := hv
      rw [if_pos hs] at hv; cases hv
    · have hv : (if s = x then none else O1.fx s) = some v := hv
      rw [if_neg hs] at hv; exact h.rel.fixed s v hv
  · rcases hc with hc | rfl
    · exact h.own c hc
    · exact .inl e6
  · intro o' ho'
    show (if p.2.1 = x then none else O1.fx p.2.1) = _
    rw [if_neg (hne2 p hq)]
    exact h.fx1 p ((hmem p).1 hq).2 o' ho'
  · show (if s = x then none else O1.fx s) = _
    by_cases hsx : s = x
    · rw [if_pos hsx, hsx]; exact hfx.symm
    · rw [if_neg hsx]
      refine h.fx2 s fun p hq e => ?_
      by_cases hpe : p = (i, x, b)
      · rw [hpe] at e; exact hsx e.symm
      · exact hs p ((hmem p).2 ⟨hpe, hq⟩) e

theorem RelD.kill (h : RelD cx ops st a m w0 O0 n D w1 O1) (S : List (Nat × Nat)) : RelD cx ops (killS ops S st) a m w0 O0 n D w1 O1 := by
  refine h.next ?_
  unfold killS
  cases hb : S.any fun p => Nat.beq p.1 2 with
  | false => exact h.rel
  | true =>
    rw [cond_true]
    refine ⟨h.rel.nodes, h.rel.used, h.rel.ok, fun t => ?_, h.rel.defers, h.rel.size, h.rel.fixed⟩
    show SRel m (cond (S.any (dstAt ops t)) .dead (st.slots t)) _
    cases S.any (dstAt ops t) with
    | true => exact SRel.dead _ _
    | false => exact h.rel.slot t
theorem killS_dead {S : List (Nat × Nat)} {t : Nat} (h : S.any (dstAt ops t) = true) : (killS ops S st).slots t = .dead := by
  have h2 : (S.any fun p => Nat.beq p.1 2) = true := by
    obtain ⟨p, hp, h3⟩ := List.any_eq_true.1 h
    simp only [dstAt, Bool.and_eq_true] at h3
    exact List.any_eq_true.2 ⟨p, hp, h3.1⟩
  unfold killS
  rw [h2, cond_true]
  show cond (S.any (dstAt ops t)) .dead (st.slots t) = .dead
  rw [h]; rfl
theorem markL_size : ∀ (l : List Nat) (s : Array Bool), (markL l s).size = s.size
  | [], s => rfl
  | i :: l, s => by simp [markL, markL_size l]
theorem getD_set {s : Array Bool} {i j : Nat} (hi : i < s.size) : (s.setIfInBounds i true).getD j false = true ↔ j = i ∨ s.getD j false = true := by
  by_cases h : i = j
  · subst h; simp [Array.getD_eq_getD_getElem?, Array.getElem?_setIfInBounds_self_of_lt hi]
  · rw [getD_set_ne false h]; exact ⟨.inr, fun h1 => h1.resolve_left fun e => h e.symm⟩
theorem markL_getD : ∀ (l : List Nat) (s : Array Bool) (j : Nat), (∀ i ∈ l, i < s.size) → ((markL l s).getD j false = true ↔ j ∈ l ∨ s.getD j false = true)
  | [], s, j, _ => by simp [markL]
  | i :: l, s, j, h => by
    simp only [markL]
    rw [markL_getD l _ j (fun k hk => by simpa using h k (by simp [hk])), getD_set (h i (by simp))]
    simp only [List.mem_cons]
    constructor
    · rintro (h1 | h1 | h1)
      · exact .inl (.inr h1)
      · exact .inl (.inl h1)
      · exact .inr h1
    · rintro ((h1 | h1) | h1)
      · exact .inr (.inl h1)
      · exact .inl h1
      · exact .inr (.inr h1)
theorem getD_tf {s : Array Bool} {j : Nat} (hj : j < s.size) : s.getD j true = false ↔ ¬ s.getD j false = true := by
  simp [Array.getD_eq_getD_getElem?, hj]
theorem ready_lt {s : Array Bool} {j : Nat} (h : j ∈ Region.ready .any ops s) : j < ops.size := by
  obtain ⟨_, o, ho, _⟩ := mem_ready.1 h
  exact (Array.getElem?_eq_some_iff.1 ho).1
theorem ready_trans {s s' : Array Bool} {j : Nat} (hs : ∀ k, s.getD k false = true → s'.getD k false = true) (hj : j ∈ Region.ready .any ops s) (hu : s'.getD j true = false) : j ∈ Region.ready .any ops s' := by
  obtain ⟨_, o, ho, hall⟩ := mem_ready.1 hj
  exact mem_ready.2 ⟨hu, o, ho, fun e he hb => hs _ (hall e he hb)⟩
theorem allocB_spec {i : Nat} (h : allocB cx ops i = true) : ∃ o x, ops[i]? = some o ∧ earlyOp cx o.op = true ∧ o.dst = some x ∧ o.guard = none ∧ ∀ e ∈ o.after, Region.binds .any e = true → False := by
  unfold allocB at h
  cases ho : ops[i]? with
  | none => rw [ho] at h; cases h
  | some o =>
    rw [ho] at h
    simp only [allocO, Bool.and_eq_true, List.all_eq_true, Bool.not_eq_true', Option.isNone_iff_eq_none, Option.isSome_iff_exists] at h
    obtain ⟨⟨⟨h1, x, h2⟩, h3⟩, h4⟩ := h
    exact ⟨o, x, rfl, h3, h2, h1, fun e he hb => by rw [h4 e (by simpa using he)] at hb; cases hb⟩
theorem early_soft (h : earlyOp cx o.op = true) : soft cx o.op = false := by
  cases hop : o.op with
  | alloc => rfl
  | buildSlice => rfl
  | _ => rw [hop] at h; cases h
theorem mem_allocL {i : Nat} : i ∈ allocL cx ops ↔ i < ops.size ∧ allocB cx ops i = true := by simp [allocL, List.mem_filter]
theorem alloc_ready {i : Nat} {s : Array Bool} (h : allocB cx ops i = true) (hu : s.getD i true = false) : i ∈ Region.ready .any ops s := by
  obtain ⟨o, _, ho, _, _, _, hall⟩ := allocB_spec h
  exact mem_ready.2 ⟨hu, o, ho, fun e he hb => (hall e he hb).elim⟩
theorem dst_ne (h : dstB cx ops = true) {i k x y : Nat} {o o' : Oper} (hi : i ∈ allocL cx ops) (hne : k ≠ i) (ho : ops[i]? = some o) (ho' : ops[k]? = some o') (hx : o.dst = some x) (hy : o'.dst = some y) : x ≠ y := by
  simp only [dstB, List.all_eq_true] at h
  have hk : k < ops.size := (Array.getElem?_eq_some_iff.1 ho').1
  have := h i hi k (List.mem_range.2 hk)
  simp only [ho, ho', hx, hy, Bool.or_eq_true, Bool.not_eq_true'] at this
  rcases this with h1 | h1
  · exact absurd (Nat.eq_of_beq_eq_true h1) hne
  · rintro rfl
    rw [Nat.beq_refl] at h1; cases h1
theorem mixAL_len {A : List Nat} : ∀ (f : Nat) (listed : Array Bool) (H : List Nat) (z : Bool) (S : List (Nat × Nat)), mixAL cx ops A f listed H z = some S → S.length ≤ f := by
  intro f
  induction f with
  | zero =>
    intro listed H z S h
    simp only [mixAL] at h
    split at h
    · cases h; simp
    · cases h
  | succ f ih =>
    intro listed H z S h
    have step : ∀ {x : Nat × Nat} {listed' : Array Bool} {H' : List Nat} {z' : Bool}, (match mixAL cx ops A f listed' H' z' with | some l => some (x :: l) | none => none) = some S → S.length ≤ f + 1 := by
      intro x listed' H' z' h
      split at h
      · rename_i l hl
        cases h
        have := ih _ _ _ _ hl
        simp; exact this
      · cases h
    have wait : (match waitA ops A listed with
        | some i => (match mixAL cx ops A f (listed.setIfInBounds i true) H z with | some l => some ((2, i) :: l) | none => none)
        | none => none) = some S → S.length ≤ f + 1 := by
      intro h
      split at h
      · exact step h
      · cases h
    simp only [mixAL] at h
    split at h
    · cases h; simp
    · split at h
      · exact wait h
      · rename_i j hj
        cases hc : (Region.ready .any ops listed).contains j with
        | true =>
          rw [hc, cond_true] at h
          split at h
          · rename_i o ho
            cases hb : (o.guard.isNone && !(allocB cx ops j) && ((!z && mixOp cx o.op) || H.all fun i => reachB ops ops.size j i)) with
            | true => rw [hb, cond_true] at h; exact step h
            | false => rw [hb, cond_false] at h; cases h
          · cases h
        | false => rw [hc, cond_false] at h; exact wait h
      · split at h
        · exact step h
        · cases h
theorem waitA_spec {A : List Nat} {listed : Array Bool} {i : Nat} (h : waitA ops A listed = some i) : i ∈ A ∧ listed.getD i true = false ∧ Region.ready .any ops (markL (A.erase i) listed) = [i] := by
  have h1 := List.find?_some h
  simp only [Bool.and_eq_true, Bool.not_eq_true', decide_eq_true_eq] at h1
  exact ⟨List.mem_of_find?_eq_some h, h1⟩
theorem mixAL_alloc {A : List Nat} {i : Nat} (hi : allocB cx ops i = true) : ∀ (f : Nat) (listed : Array Bool) (H : List Nat) (z : Bool) (S : List (Nat × Nat)), mixAL cx ops A f listed H z = some S → listed.getD i true = false → (2, i) ∈ S := by
  intro f
  induction f with
  | zero =>
    intro listed H z S h hu
    simp only [mixAL] at h
    split at h
    · rename_i hr
      have := alloc_ready (s := listed) hi hu
      rw [hr] at this; cases this
    · cases h
  | succ f ih =>
    intro listed H z S h hu
    have step : ∀ {c j : Nat} {H' : List Nat} {z' : Bool}, (j = i → c = 2) → (match mixAL cx ops A f (listed.setIfInBounds j true) H' z' with | some l => some ((c, j) :: l) | none => none) = some S → (2, i) ∈ S := by
      intro c j H' z' hc h
      split at h
      · rename_i l hl
        cases h
        by_cases hji : j = i
        · rw [hc hji, hji]; exact List.mem_cons_self ..
        · exact List.mem_cons_of_mem _ (ih _ _ _ _ hl (by rw [getD_set_ne true hji]; exact hu))
      · cases h
    have wait : (match waitA ops A listed with
        | some i => (match mixAL cx ops A f (listed.setIfInBounds i true) H z with | some l => some ((2, i) :: l) | none => none)
        | none => none) = some S → (2, i) ∈ S := by
      intro h
      split at h
      · exact step (fun _ => rfl) h
      · cases h
    simp only [mixAL] at h
    split at h
    · rename_i hr
      have := alloc_ready (s := listed) hi hu
      rw [hr] at this; cases this
    · split at h
      · exact wait h
      · rename_i j hj
        cases hc : (Region.ready .any ops listed).contains j with
        | true =>
          rw [hc, cond_true] at h
          split at h
          · rename_i o ho
            cases hb : (o.guard.isNone && !(allocB cx ops j) && ((!z && mixOp cx o.op) || H.all fun i => reachB ops ops.size j i)) with
            | true =>
              rw [hb, cond_true] at h
              simp only [Bool.and_eq_true, Bool.not_eq_true'] at hb
              exact step (fun e => by subst e; rw [hi] at hb; cases hb.1.2) h
            | false => rw [hb, cond_false] at h; cases h
          · cases h
        | false => rw [hc, cond_false] at h; exact wait h
      · split at h
        · rename_i k hk
          have h1 := List.find?_some hk
          refine step (fun e => ?_) h
          subst e
          obtain ⟨o, x, ho, hop, _⟩ := allocB_spec hi
          rw [ho] at h1
          simp [early_soft hop] at h1
        · cases h
/-- what it yields, whatever is written meanwhile -/
theorem loose_pure (hT : TypesOK P cx) (hR : Rel st a m w0 O0 n) (o : Oper) (hl : pureK o.op = true) (hla : looseA st o.op = true) {C : Slot → Option R} (h : softC cx st o.op C = some r) :
    ∃ s, C s = some r ∧ ∃ u, SRel m s u ∧ ∀ w1, o.quietAt P a (Grow w1) w1 u := by
  have still : ∀ {u : Value} {w1 : World}, (execOp a.eval o).run P w1 = .ok (.value u) w1 → o.quietAt P a (Grow w1) w1 u := fun hh => by
    unfold Oper.quietAt; rw [hh]; exact ⟨rfl, rfl⟩
  cases hoo : o.op with
  | move x =>
    rw [hoo] at h
    exact ⟨_, h, _, evalS_sound hR x, fun w1 => still (by simp [execOp, hoo])⟩
  | assign x =>
    rw [hoo] at h
    exact ⟨_, h, _, evalS_sound hR x, fun w1 => still (by simp [execOp, hoo])⟩
  | extract x k =>
    rw [hoo] at h
    have hx := evalS_sound hR x
    simp only [softC] at h
    split at h
    · rename_i l he
      split at h
      · rename_i s hs'
        rw [he] at hx; simp only [SRel] at hx
        obtain ⟨us, h1, h2⟩ := hx
        obtain ⟨u, h3, h4⟩ := STup_get h2 hs'
        exact ⟨s, h, u, h4, fun w1 => still (by simp [execOp, hoo, h1, Instr.extract, h3])⟩
      · cases h
    · cases h
  | fieldAddr t p f =>
    rw [hoo] at h hla
    obtain ⟨s, h1, u, h2, h3⟩ := loose_field hT hR t p f hla h
    exact ⟨s, h1, u, h2, fun w1 => still (h3 o hoo w1)⟩
  | _ => simp [hoo, pureK] at hl
/-- a region in which variables are made, in such an order -/
theorem region_mixA (hT : TypesOK P cx) (hF : FnsOK P G cx) (hG : ∀ w', Frame0 w0 O0 w' → G w') {Q : Act → World → Prop} (hQ : ∀ st' a' m', Rel st' a' m' w0 O0 n → K st' = some r → Q a' m'.w)
    (hd : ∀ o ∈ ops.toList, ∀ t, o.dst = some t → t < n ∧ O0.fx t = none) (hsel : Region.noSelect ops = true) (hdst : dstB cx ops = true) :
    ∀ (μ f : Nat) (listed rl : Array Bool) (z : Bool) (S : List (Nat × Nat)) (st : St) (a : Act) (m : Mem) (Gr : Nat → World → World → Prop) (H0 H : List Nat) (D : List (Nat × Nat × Nat)) (w1 : World) (O1 : OX), 2 * f - D.length ≤ μ → (∀ k ∈ H0, k ∈ H ∨ ∀ w w', Gr k w w') → mixAL cx ops (allocL cx ops) f listed H z = some S → listed.size = ops.size →
      (∀ j, rl.getD j false = true ↔ listed.getD j false = true ∨ ∃ p ∈ D, p.1 = j) → Closed ops rl → (∀ p ∈ D, p.1 ∈ allocL cx ops ∧ listed.getD p.1 true = false) → RelD cx ops st a m w0 O0 n D w1 O1 → (∀ t, S.any (dstAt ops t) = true → st.slots t = .dead) →
      (∀ k ∈ H0, listed.getD k false = true) → (∀ k w w', Grow w w' → Gr k w w') → (∀ k w w' w'', Gr k w w' → Gr k w' w'' → Gr k w w'') →
      (z = false → ∀ k ∈ H0, ∀ w w', Frame0 w (fun b => RowB m b ∨ m.X b ∨ m.w.heap.size ≤ b) w' → Gr k w w') → mixAS cx ops S st K = some r → wpAnyG P ops Gr H0 ops.size Q (f - D.length) rl a m.w := by
  intro μ
  induction μ using Nat.strongRecOn with
  | ind μ ih =>
  intro f listed rl z S st a m Gr H0 H D w1 O1 hμ hHp hS hsz hrl hcl hDA hRD hdead hH hgr htr hfr h
  have hG1 : ∀ w', Frame0 w1 O1 w' → G w' := fun w' hf' => hG w' (hRD.frame hf')
  have hDS : ∀ p ∈ D, (2, p.1) ∈ S := fun p hp => mixAL_alloc (mem_allocL.1 (hDA p hp).1).2 f listed H z S hS (hDA p hp).2
  have hlen := mixAL_len f listed H z S hS
  have hnodup : (D.map fun p => (2, p.1)).Nodup := by
    have := hRD.nd1
    rw [show (D.map fun p => ((2 : Nat), p.1)) = (D.map (·.1)).map (fun x => ((2 : Nat), x)) by simp]
    exact List.Pairwise.map _ (fun x y hxy e => hxy (by simpa using e)) this
  have hDlen : D.length ≤ S.length := by
    have := nodup_sub_len (l' := S) hnodup fun x hx => by
      obtain ⟨p, hp, rfl⟩ := List.mem_map.1 hx
      exact hDS p hp
    simpa using this
  have hd1 : ∀ (j : Nat) (o : Oper), ops[j]? = some o → (∀ p ∈ D, p.1 ≠ j) → ∀ t, o.dst = some t → t < n ∧ O1.fx t = none := by
    intro j o hj hne t ht
    have h0 := hd o (Array.mem_toList_iff.2 (Array.mem_of_getElem? hj)) t ht
    refine ⟨h0.1, ?_⟩
    rw [hRD.fx2 t fun p hp => ?_]
    · exact h0.2
    · obtain ⟨⟨o', e1, _, e3, _⟩, _⟩ := hRD.don p hp
      exact dst_ne hdst (hDA p hp).1 (Ne.symm (hne p hp)) e1 hj e3 ht
  have hsub : ∀ k, listed.getD k false = true → rl.getD k false = true := fun k hk => (hrl k).2 (.inl hk)
  have hrsz : rl.size = ops.size := hcl.1
  have hun : ∀ j, j < ops.size → rl.getD j true = false → listed.getD j true = false ∧ ∀ p ∈ D, p.1 ≠ j := by
    intro j hj hu
    rw [getD_tf (by omega)] at hu
    refine ⟨(getD_tf (by omega)).2 fun h1 => hu (hsub j h1), fun p hp e => hu ((hrl j).2 (.inr ⟨p, hp, e⟩))⟩
  -- the end
  have stop : S = [] → Region.ready .any ops listed = [] → D = [] ∧ Region.ready .any ops rl = [] := by
    intro hS0 hr0
    have hD0 : D = [] := by
      cases hDD : D with
      | nil => rfl
      | cons p l => rw [hDD, hS0] at hDlen; simp at hDlen
    refine ⟨hD0, ?_⟩
    apply List.eq_nil_iff_forall_not_mem.2
    intro j hj
    have := ready_trans (s' := listed) (fun k hk => by
      rcases (hrl k).1 hk with h1 | ⟨p, hp, _⟩
      · exact h1
      · rw [hD0] at hp; cases hp) hj (hun j (ready_lt hj) (mem_ready.1 hj).1).1
    rw [hr0] at this; cases this
  -- a variable is made by the code
  have giveA : ∀ (g : Nat), f - D.length = g + 1 → ∀ w', Grow m.w w' → ∀ j ∈ Region.ready .any ops rl, j ∈ allocL cx ops → wstep P ops j (fun a' w'' => (∀ i ∈ H0, reachB ops ops.size j i = false → Gr i w' w'') ∧ wpAnyG P ops Gr H0 ops.size Q g (rl.setIfInBounds j true) a' w'') a w' := by
    intro g hfg w' hg j hj hjA
    obtain ⟨hju, hjD⟩ := hun j (ready_lt hj) (mem_ready.1 hj).1
    obtain ⟨o, x, ho, hop, hx, hgd, _⟩ := allocB_spec (mem_allocL.1 hjA).2
    obtain ⟨blk, h4, hrun⟩ := early_run (a := a) hT hop w'
    have hxd := hd o (Array.mem_toList_iff.2 (Array.mem_of_getElem? ho)) x hx
    refine ⟨o, ho, ?_⟩
    rw [if_pos (by simp [Region.wanted, hgd])]
    unfold Oper.wp
    rw [hrun]
    show _ ∧ wpAnyG P ops Gr H0 ops.size Q g (rl.setIfInBounds j true) (a.put o.dst _) _
    refine ⟨fun i hi _ => hgr i _ _ (Grow.alloc w' _), ?_⟩
    rw [hx]
    have hnew : ∀ p ∈ D, p.1 ≠ j ∧ p.2.1 ≠ x := fun p hp => by
      refine ⟨hjD p hp, ?_⟩
      obtain ⟨⟨o', e1, _, e3, _⟩, _⟩ := hRD.don p hp
      exact (dst_ne hdst hjA (hjD p hp) ho e1 hx e3).symm
    have hdd : st.slots x = .dead := hdead x (List.any_eq_true.2 ⟨(2, j), mixAL_alloc (mem_allocL.1 hjA).2 f listed H z S hS hju, by simp [dstAt, ho, hx]⟩)
    have hRD2 := hRD.give ho hop hx hxd.1 hdd hnew hg (blk := blk) h4
    have := ih (2 * f - (D.length + 1)) (by omega) f listed (rl.setIfInBounds j true) z S st _ _ Gr H0 H _ _ _ (by simp) hHp hS hsz (fun k => ?_) (hcl.set hj) (fun p hp => ?_) hRD2 hdead hH hgr htr (fun hz k hk w w'' hf2 => hfr hz k hk w w'' ⟨hf2.os, hf2.tape, hf2.output, hf2.size, fun b hb hn => hf2.block b hb fun hn' => hn ?_⟩) h
    · rw [show f - ((j, x, w'.heap.size) :: D).length = g by simp only [List.length_cons]; omega] at this
      exact this
    · rw [getD_set (by rw [hrsz]; exact ready_lt hj), hrl k]
      simp only [List.mem_cons, exists_eq_or_imp]
      constructor
      · rintro (h1 | h1 | h1)
        · exact .inr (.inl h1.symm)
        · exact .inl h1
        · exact .inr (.inr h1)
      · rintro (h1 | h1 | h1)
        · exact .inr (.inl h1)
        · exact .inl h1.symm
        · exact .inr (.inr h1)
    · rcases List.mem_cons.1 hp with rfl | hp
      · exact ⟨hjA, hju⟩
      · exact hDA p hp
    · have h8 := (Grow.alloc w' (.cells blk (earlyT cx o.op))).size
      have := hg.size
      rcases hn' with hn' | hn' | hn'
      · exact .inl hn'
      · have hn' : m.X b ∨ b = w'.heap.size := hn'
        rcases hn' with hn' | hn'
        · exact .inr (.inl hn')
        · exact .inr (.inr (by omega))
      · have h7 : (w'.alloc (.cells blk (earlyT cx o.op))).heap.size ≤ b := hn'
        exact .inr (.inr (by omega))
  -- a variable is told
  have takeA : ∀ (f' i : Nat) (S' : List (Nat × Nat)), f = f' + 1 → waitA ops (allocL cx ops) listed = some i → mixAL cx ops (allocL cx ops) f' (listed.setIfInBounds i true) H z = some S' → S = (2, i) :: S' → wpAnyG P ops Gr H0 ops.size Q (f - D.length) rl a m.w := by
    rintro f' i S' rfl hw hS' rfl
    obtain ⟨hiA, hiu, hir⟩ := waitA_spec hw
    obtain ⟨o, x, ho, hop, hx, hgd, _⟩ := allocB_spec (mem_allocL.1 hiA).2
    have hil : i < ops.size := (mem_allocL.1 hiA).1
    by_cases hiD : ∃ p ∈ D, p.1 = i
    · obtain ⟨⟨i', x', b⟩, hp, hpi⟩ := hiD
      dsimp only at hpi; subst hpi
      obtain ⟨⟨o', e1, e2, e3, _⟩, _⟩ := hRD.don _ hp
      dsimp only at e1 e3
      rw [ho] at e1; cases e1
      rw [hx] at e3; cases e3
      have hxd := hd o (Array.mem_toList_iff.2 (Array.mem_of_getElem? ho)) x hx
      simp only [mixAS, ho] at h
      have hb2 : Nat.beq 2 1 = false := rfl
      rw [hb2, Bool.false_and, cond_false] at h
      obtain ⟨N, nd0, y, st1, loc, h1, h2, hl1, hl2, hl3⟩ := early_told hT hop hx h
      obtain ⟨m', O1', hw', hrow, hXX, hRD'⟩ := hRD.take hT hp ho hx hxd.2 h1 hl1 hl2 hl3
      have hDl : (D.erase (i', x, b)).length = D.length - 1 := List.length_erase_of_mem hp
      have hpos : 0 < D.length := List.length_pos_of_mem hp
      have hDn : D.Nodup := List.Pairwise.of_map _ (fun p q hpq e => hpq (by rw [e])) hRD.nd1
      have hmem : ∀ p, p ∈ D.erase (i', x, b) ↔ p ≠ (i', x, b) ∧ p ∈ D := fun p => hDn.mem_erase_iff
      have hne : ∀ p ∈ D.erase (i', x, b), p.1 ≠ i' := fun p hq e => ((hmem p).1 hq).1 (nodup_map_inj hRD.nd1 ((hmem p).1 hq).2 hp e)
      have := ih (2 * f' - (D.erase (i', x, b)).length) (by omega) f' (listed.setIfInBounds i' true) rl z S' _ a m' Gr H0 H _ w1 O1' (Nat.le_refl _) hHp hS' (by simpa using hsz) (fun k => ?_) hcl (fun p hq => ?_) (hRD'.kill S') (fun t ht => killS_dead ht) (fun k hk => getD_set_true (hH k hk)) hgr htr (fun hz k hk w w'' hf2 => hfr hz k hk w w'' ⟨hf2.os, hf2.tape, hf2.output, hf2.size, fun b hb hn => hf2.block b hb fun hn' => hn ?_⟩) h2
      · rw [hw', show f' - (D.erase (i', x, b)).length = f' + 1 - D.length by omega] at this
        exact this
      · rw [hrl k, getD_set (by omega)]
        constructor
        · rintro (h3 | ⟨p, hq, e⟩)
          · exact .inl (.inr h3)
          · by_cases hpe : p = (i', x, b)
            · subst hpe; exact .inl (.inl e.symm)
            · exact .inr ⟨p, (hmem p).2 ⟨hpe, hq⟩, e⟩
        · rintro ((h3 | h3) | ⟨p, hq, e⟩)
          · exact .inr ⟨_, hp, h3.symm⟩
          · exact .inl h3
          · exact .inr ⟨p, ((hmem p).1 hq).2, e⟩
      · refine ⟨(hDA p ((hmem p).1 hq).2).1, ?_⟩
        rw [getD_set_ne true (Ne.symm (hne p hq))]
        exact (hDA p ((hmem p).1 hq).2).2
      · rw [hw'] at hn'
        rcases hn' with hn' | hn' | hn'
        · exact (hrow _ hn').imp id .inl
        · exact .inr (.inl (hXX _ hn'))
        · exact .inr (.inr hn')
    · have hpos : D.length + 1 ≤ f' + 1 := by
        have := nodup_sub_len (l := (2, i) :: D.map fun p => (2, p.1)) (l' := (2, i) :: S') (List.nodup_cons.2 ⟨fun hc => by
          obtain ⟨p, hp, e⟩ := List.mem_map.1 hc
          simp at e
          exact hiD ⟨p, hp, e⟩, hnodup⟩) fun y hy => by
            rcases List.mem_cons.1 hy with rfl | hy
            · exact List.mem_cons_self ..
            · obtain ⟨p, hp, rfl⟩ := List.mem_map.1 hy
              exact hDS p hp
        simp only [List.length_cons, List.length_map] at this hlen
        omega
      obtain ⟨g, hg⟩ : ∃ g, f' + 1 - D.length = g + 1 := ⟨f' - D.length, by omega⟩
      have hiu' : rl.getD i true = false := (getD_tf (by omega)).2 fun h1 => by
        rcases (hrl i).1 h1 with h2 | h2
        · exact (getD_tf (by omega)).1 hiu h2
        · exact hiD h2
      rw [hg]
      intro w1' hg1
      refine ⟨fun hr => ?_, fun j hj => giveA g hg w1' hg1 j hj ?_⟩
      · have := alloc_ready (s := rl) (mem_allocL.1 hiA).2 hiu'
        rw [hr] at this; cases this
      · refine Decidable.byContradiction fun hjA => ?_
        have hme : ∀ k ∈ (allocL cx ops).erase i, k < listed.size := fun k hk => by rw [hsz]; exact (mem_allocL.1 (List.mem_of_mem_erase hk)).1
        have := ready_trans (s' := markL ((allocL cx ops).erase i) listed) (fun k hk => (markL_getD _ _ _ hme).2 (by
          rcases (hrl k).1 hk with h2 | ⟨p, hp, e⟩
          · exact .inr h2
          · refine .inl ((List.mem_erase_of_ne fun e' => hiD ⟨p, hp, e.trans e'⟩).2 ?_)
            rw [← e]; exact (hDA p hp).1)) hj ((getD_tf (by rw [markL_size, hsz]; exact ready_lt hj)).2 fun h1 => by
          rcases (markL_getD _ _ _ hme).1 h1 with h2 | h2
          · exact hjA (List.mem_of_mem_erase h2)
          · exact (getD_tf (by rw [hsz]; exact ready_lt hj)).1 (hun j (ready_lt hj) (mem_ready.1 hj).1).1 h2)
        rw [hir] at this
        rw [List.mem_singleton.1 this] at hjA
        exact hjA hiA
  cases f with
  | zero =>
    simp only [mixAL] at hS
    split at hS
    · rename_i hr
      cases hS
      obtain ⟨hD0, hr'⟩ := stop rfl hr
      subst hD0
      exact ⟨hr', fun w' hg => hQ st a (m.at w') (hRD.out.grow hg) h⟩
    · cases hS
  | succ f =>
    have hS2 := hS
    simp only [mixAL] at hS2
    split at hS2
    · rename_i hr
      cases hS2
      obtain ⟨hD0, hr'⟩ := stop rfl hr
      subst hD0
      exact fun w1' hg1 => ⟨fun _ => hQ st a (m.at w1') (hRD.out.grow hg1) h, fun j hj => by rw [hr'] at hj; cases hj⟩
    · have wait : (match waitA ops (allocL cx ops) listed with
          | some i => (match mixAL cx ops (allocL cx ops) f (listed.setIfInBounds i true) H z with | some l => some ((2, i) :: l) | none => none)
          | none => none) = some S → wpAnyG P ops Gr H0 ops.size Q (f + 1 - D.length) rl a m.w := by
        intro h9
        split at h9
        · rename_i i hi
          split at h9
          · rename_i l hl
            cases h9
            exact takeA f i l rfl hi hl rfl
          · cases h9
        · cases h9
      split at hS2
      · exact wait hS2
      · -- the only one ready
        rename_i j hr
        cases hc : (Region.ready .any ops listed).contains j with
        | false => rw [hc, cond_false] at hS2; exact wait hS2
        | true =>
        rw [hc, cond_true] at hS2
        split at hS2
        · rename_i o hj
          cases hb : (o.guard.isNone && !(allocB cx ops j) && ((!z && mixOp cx o.op) || H.all fun i => reachB ops ops.size j i)) with
          | false => rw [hb, cond_false] at hS2; cases hS2
          | true =>
          rw [hb, cond_true] at hS2
          simp only [Bool.and_eq_true, Bool.not_eq_true', Option.isNone_iff_eq_none, Bool.or_eq_true] at hb
          obtain ⟨⟨hgd, hna⟩, hmx⟩ := hb
          split at hS2
          · rename_i S' hS'
            cases hS2
            have hjA : j ∉ allocL cx ops := fun hx => by rw [(mem_allocL.1 hx).2] at hna; cases hna
            have hjD : ∀ p ∈ D, p.1 ≠ j := fun p hp e => hjA (by rw [← e]; exact (hDA p hp).1)
            have hjr : j ∈ Region.ready .any ops listed := by simpa using hc
            have hjl : j < ops.size := ready_lt hjr
            have hju' : rl.getD j true = false := (getD_tf (by omega)).2 fun h1 => by
              rcases (hrl j).1 h1 with h2 | ⟨p, hp, e⟩
              · exact (getD_tf (by omega)).1 (mem_ready.1 hjr).1 h2
              · exact hjD p hp e
            have hjrl : j ∈ Region.ready .any ops rl := ready_trans hsub hjr hju'
            have hDS' : D.length ≤ S'.length := by
              have := nodup_sub_len (l' := S') hnodup fun y hy => by
                obtain ⟨p, hp, rfl⟩ := List.mem_map.1 hy
                have := hDS p hp
                rcases List.mem_cons.1 this with h1 | h1
                · simp at h1
                · exact h1
              simpa using this
            have hlen' := mixAL_len f _ H _ S' hS'
            have hfg : f + 1 - D.length = (f - D.length) + 1 := by omega
            rw [hfg]
            intro w1' hg1
            refine ⟨fun h0 => (by rw [h0] at hjrl; cases hjrl), fun k hk => ?_⟩
            by_cases hkA : k ∈ allocL cx ops
            · exact giveA (f - D.length) hfg w1' hg1 k hk hkA
            have hma : ∀ k ∈ allocL cx ops, k < listed.size := fun k hk => by rw [hsz]; exact (mem_allocL.1 hk).1
            have hkj : k = j := by
              have := ready_trans (s' := markL (allocL cx ops) listed) (fun k hk => (markL_getD _ _ _ hma).2 (by
                rcases (hrl k).1 hk with h2 | ⟨p, hp, e⟩
                · exact .inr h2
                · exact .inl (by rw [← e]; exact (hDA p hp).1))) hk ((getD_tf (by rw [markL_size, hsz]; exact ready_lt hk)).2 fun h1 => by
                rcases (markL_getD _ _ _ hma).1 h1 with h2 | h2
                · exact hkA h2
                · exact (getD_tf (by rw [hsz]; exact ready_lt hk)).1 (hun k (ready_lt hk) (mem_ready.1 hk).1).1 h2)
              rw [hr] at this
              exact List.mem_singleton.1 this
            subst hkj
            simp only [mixAS, hj] at h
            have hb2 : Nat.beq 0 1 = false := rfl
            rw [hb2, Bool.false_and, cond_false] at h
            refine ⟨o, hj, ?_⟩
            rw [if_pos (by simp [Region.wanted, hgd])]
            have hR1 := hRD.rel.grow hg1
            have hdo := hd1 k o hj hjD
            have next : ∀ (st' : St) (a' : Act) (m' : Mem), Rel st' a' m' w1 O1 n → ((z || !(mixOp cx o.op)) = false → (∀ b, RowB m' b → RowB m b ∨ w1'.heap.size ≤ b) ∧ w1'.heap.size ≤ m'.w.heap.size) → mixAS cx ops S' (killS ops S' st') K = some r →
                wpAnyG P ops Gr H0 ops.size Q (f - D.length) (rl.setIfInBounds k true) a' m'.w := by
              intro st' a' m' hR' hrow hst'
              refine ih (2 * f - D.length) (by omega) f (listed.setIfInBounds k true) (rl.setIfInBounds k true) _ S' _ a' m' Gr H0 H D w1 O1 (Nat.le_refl _) hHp hS' (by simpa using hsz) (fun i => ?_) (hcl.set hk) (fun p hp => ?_) ((hRD.next hR').kill S') (fun t ht => killS_dead ht) (fun i hi => getD_set_true (hH i hi)) hgr htr (fun hz i hi w w' hf2 => ?_) hst'
              · rw [getD_set (by omega), getD_set (by omega), hrl i, or_assoc]
              · refine ⟨(hDA p hp).1, ?_⟩
                rw [getD_set_ne true (Ne.symm (hjD p hp))]
                exact (hDA p hp).2
              · obtain ⟨hrow1, hrow2⟩ := hrow hz
                have hz0 : z = false := by cases z with | false => rfl | true => simp at hz
                refine hfr hz0 i hi w w' ⟨hf2.os, hf2.tape, hf2.output, hf2.size, fun b hb hn => hf2.block b hb fun hn' => hn ?_⟩
                have := hg1.size
                rcases hn' with hn' | hn' | hn'
                · rcases hrow1 b hn' with h3 | h3
                  · exact .inl h3
                  · exact .inr (.inr (by omega))
                · rw [hR'.ok.keeps, ← hRD.rel.ok.keeps] at hn'
                  exact .inr (.inl hn')
                · exact .inr (.inr (by omega))
            cases hmo : mixOp cx o.op with
            | true =>
              obtain ⟨st', h1, Z, h2, h3⟩ := opS_rows hT hF hG1 hR1 hdo hmo h
              refine h2 _ _ fun a' m' hR' hf' hrow => ⟨fun i hi hre => ?_, next st' a' m' hR' (fun _ => ⟨hrow, hf'.size⟩) h1⟩
              rcases hHp i hi with hiH | hiH
              rotate_left
              · exact hiH _ _
              rcases hmx with hmx | hmx
              · exact hfr hmx.1 i hi _ _ ⟨hf'.os, hf'.tape, hf'.output, hf'.size, fun b hb hz => hf'.block b hb fun hz' => hz (.inl (h3 b hz'))⟩
              · rw [List.all_eq_true.1 hmx i hiH] at hre; cases hre
            | false =>
              rw [hmo] at hmx
              have hmx : (H.all fun i => reachB ops ops.size k i) = true := by simpa using hmx
              obtain ⟨st', h1, h2⟩ := opS_sound hT hF hG1 hR1 hdo h
              refine h2 _ _ fun a' m' hR' => ⟨fun i hi hre => ?_, next st' a' m' hR' (fun hz => by simp [hmo] at hz) h1⟩
              rcases hHp i hi with hiH | hiH
              · rw [List.all_eq_true.1 hmx i hiH] at hre; cases hre
              · exact hiH _ _
          · cases hS2
        · cases hS2
      · -- what only reads
        split at hS2
        · rename_i i hi
          have hfi := List.find?_some hi
          simp only [Bool.and_eq_true, Bool.not_eq_true'] at hfi
          obtain ⟨⟨⟨hz, hrd⟩, hfree⟩, ho⟩ := hfi
          rw [Bool.or_eq_true, Bool.not_eq_true'] at hz
          have hir : i ∈ Region.ready .any ops listed := by simpa using hrd
          cases hj : ops[i]? with
          | none => rw [hj] at ho; cases ho
          | some o =>
          rw [hj] at ho
          simp only [Bool.and_eq_true, Option.isNone_iff_eq_none] at ho
          obtain ⟨⟨hgd, hsf⟩, hlk⟩ := ho
          split at hS2
          · rename_i S' hS'
            cases hS2
            have hil : i < ops.size := ready_lt hir
            have hiA : i ∉ allocL cx ops := fun hx => by
              obtain ⟨o', x, ho', hop, _⟩ := allocB_spec (mem_allocL.1 hx).2
              rw [hj] at ho'; cases ho'
              rw [early_soft hop] at hsf; cases hsf
            have hiD : ∀ p ∈ D, p.1 ≠ i := fun p hp e => hiA (by rw [← e]; exact (hDA p hp).1)
            have hiu : rl.getD i true = false := (getD_tf (by omega)).2 fun h1 => by
              rcases (hrl i).1 h1 with h2 | ⟨p, hp, e⟩
              · exact (getD_tf (by omega)).1 (mem_ready.1 hir).1 h2
              · exact hiD p hp e
            have hmem : i ∈ Region.ready .any ops rl := ready_trans hsub hir hiu
            have hDS' : D.length ≤ S'.length := by
              have := nodup_sub_len (l' := S') hnodup fun y hy => by
                obtain ⟨p, hp, rfl⟩ := List.mem_map.1 hy
                have := hDS p hp
                rcases List.mem_cons.1 this with h1 | h1
                · simp at h1
                · exact h1
              simpa using this
            have hlen' := mixAL_len f _ _ _ S' hS'
            have hfg : f + 1 - D.length = (f - D.length) + 1 := by omega
            rw [hfg]
            have hdo := hd1 i o hj hiD
            simp only [mixAS, hj] at h
            have hiH : ∀ k ∈ H0, k ≠ i := fun k hk e => by
              have := hH k hk
              rw [e, getD_both (mem_ready.1 hir).1] at this
              cases this
            have hpu : pureB ops i = pureK o.op := by unfold pureB; rw [hj]
            let Ri : World → World → Prop := fun w w' => pureK o.op = false → Frame0 w (fun b => RowB m b ∨ m.X b ∨ m.w.heap.size ≤ b) w'
            let Gr' : Nat → World → World → Prop := fun k w w' => if k = i then Ri w w' else Gr k w w'
            have gi : ∀ w w', Gr' i w w' ↔ Ri w w' := fun w w' => by show (if i = i then _ else _) ↔ _; rw [if_pos rfl]
            have gk : ∀ k w w', k ≠ i → (Gr' k w w' ↔ Gr k w w') := fun k w w' hk => by show (if k = i then _ else _) ↔ _; rw [if_neg hk]
            have hgr' : ∀ k w w', Grow w w' → Gr' k w w' := by
              intro k w w' hg
              by_cases hk : k = i
              · subst hk; rw [gi]; exact fun _ => ⟨hg.os, hg.tape, hg.output, hg.size, fun b hb _ => hg.block b hb⟩
              · rw [gk k w w' hk]; exact hgr k w w' hg
            have htr' : ∀ k w w' w'', Gr' k w w' → Gr' k w' w'' → Gr' k w w'' := by
              intro k w w' w'' h1 h2
              by_cases hk : k = i
              · subst hk
                rw [gi] at h1 h2 ⊢
                intro hp
                have h1 := h1 hp
                have h2 := h2 hp
                exact ⟨h2.os.trans h1.os, ⟨h2.tape.1.trans h1.tape.1, fun hs => Nat.le_trans (h1.tape.2 hs) (h2.tape.2 hs)⟩, h2.output.trans h1.output, Nat.le_trans h1.size h2.size, fun b hb hz => (h2.block b (Nat.lt_of_lt_of_le hb h1.size) hz).trans (h1.block b hb hz)⟩
              · rw [gk k _ _ hk] at h1 h2 ⊢
                exact htr k w w' w'' h1 h2
            cases hlo : looseA st o.op with
            | false =>
              rw [hlo] at h
              have : (Nat.beq 1 1 && !false) = true := rfl
              rw [this, cond_true] at h; cases h
            | true =>
            rw [hlo] at h
            have : (Nat.beq 1 1 && !true) = false := rfl
            rw [this, cond_false] at h
            unfold opS at h
            rw [hsf, cond_true] at h
            obtain ⟨s, h1, u, h2, h3⟩ : ∃ s, mixAS cx ops S' (killS ops S' (st.put o.dst s)) K = some r ∧ ∃ u, SRel m s u ∧ ∀ w1, Ri m.w w1 → o.quietAt P a (Grow w1) w1 u := by
              cases hpk : pureK o.op with
              | false =>
                have hlo : looseM st o.op = true := by
                  cases hop : o.op <;> rw [hop] at hlo hpk <;> first | exact hlo | cases hpk
                obtain ⟨s, h1, u, h2, h3⟩ := loose_mix hT hF hG1 hRD.rel o hlo h
                exact ⟨s, h1, u, h2, fun w1 hw1 => h3 w1 (hw1 hpk)⟩
              | true =>
                obtain ⟨s, h1, u, h2, h3⟩ := loose_pure hT hRD.rel o hpk hlo h
                exact ⟨s, h1, u, h2, fun w1 _ => h3 w1⟩
            have hy : YieldsG P ops (Gr' i) o u a m.w := .inl ⟨by simp [Region.wanted, hgd], fun w1 hw1 => h3 w1 ((gi _ _).1 hw1)⟩
            have hR' := hRD.rel.put o.dst hdo h2
            have key := ih (2 * f - D.length) (by omega) f (listed.setIfInBounds i true) (rl.setIfInBounds i true) z S' _ (a.put o.dst u) m Gr' (i :: H0) _ D w1 O1 (Nat.le_refl _) (fun k hk => ?_) hS' (by simpa using hsz) (fun k => by rw [getD_set (by omega), getD_set (by omega), hrl k, or_assoc]) (hcl.set hmem) (fun p hp => ⟨(hDA p hp).1, by rw [getD_set_ne true (Ne.symm (hiD p hp))]; exact (hDA p hp).2⟩) ((hRD.next hR').kill S') (fun t ht => killS_dead ht) (fun k hk => ?_) hgr' htr' (fun hz0 k hk w w' hf2 => ?_) h1
            · refine wpAnyG_weak (fun k hk => List.mem_cons_of_mem _ hk) (fun k hk w w' h1 => (gk k w w' (hiH k hk)).1 h1) _ _ _ _ (wpAnyG_first hgr' htr' (List.mem_cons_self ..) hj (Region.noSelect_spec hsel) (f - D.length) rl a m.w hcl (fun j oj hoj hji hju hno => Region.free_spec hj hfree j oj hoj hji (hun j (Array.getElem?_eq_some_iff.1 hoj).1 hju).1 hno) hmem hy key)
            · rcases List.mem_cons.1 hk with rfl | hk
              · rw [hpu]
                cases hpk : pureK o.op with
                | true => exact .inr fun w w' => (gi w w').2 fun h => by rw [hpk] at h; cases h
                | false => exact .inl (List.mem_cons_self ..)
              · have hki := hiH k hk
                rcases hHp k hk with h4 | h4
                · refine .inl ?_
                  cases pureB ops i with
                  | true => exact h4
                  | false => exact List.mem_cons_of_mem _ h4
                · exact .inr fun w w' => (gk k w w' hki).2 (h4 w w')
            · rcases List.mem_cons.1 hk with rfl | hk
              · exact (getD_set (by omega)).2 (.inl rfl)
              · exact getD_set_true (hH k hk)
            · by_cases hki : k = i
              · subst hki; exact (gi w w').2 fun _ => hf2
              · exact (gk k w w' hki).2 (hfr hz0 k ((List.mem_cons.1 hk).resolve_left hki) w w' hf2)
          · cases hS2
        · cases hS2
def regionOK (cx : Ctx) (n : Nat) (ops : Array Oper) (draw : Bool) : Bool :=
  ops.toList.all (fun o => match o.dst with | some t => Nat.blt t n && !elemB t cx.fx | none => true) && (!draw || (quietB cx ops || headTailB cx ops) || cond (guardsB ops) (mixB cx ops) (floatB cx ops || mixAB cx ops))
theorem region_sound (hm : P.follows .mixedOrders = true) (hT : TypesOK P cx) (hF : FnsOK P G cx) (hG : ∀ w', Frame0 w0 O0 w' → G w') (hfx : ∀ t v, O0.fx t = some v → elemB t cx.fx = true) {id : Nat} {ops : Array Oper} {draw : Bool} (hok : regionOK cx n ops draw = true) {Q : Exit → Act → World → Prop}
    (hQ : ∀ st' a' m', Rel st' a' m' w0 O0 n → K st' = some r → Q .normal a' m'.w) (hR : Rel st a m w0 O0 n) (h : regionE cx ops draw st K = some r) : (Code.region id ops draw).wp P Q a m.w := by
  simp only [regionOK, Bool.and_eq_true] at hok
  have hd : ∀ o ∈ ops.toList, ∀ t, o.dst = some t → t < n ∧ O0.fx t = none := fun o ho t ht => by
    have := List.all_eq_true.1 hok.1 o ho
    rw [ht] at this
    simp only [Bool.and_eq_true, Bool.not_eq_true'] at this
    refine ⟨Nat.le_of_ble_eq_true this.1, ?_⟩
    cases hx : O0.fx t with
    | none => rfl
    | some v => rw [hfx t v hx] at this; cases this.2
  cases draw with
  | false =>
    unfold regionE at h
    rw [Bool.not_false, Bool.true_or, cond_true] at h
    refine wp_region ?_
    have := region_seq hT hF hG hQ ops.toList 0 st a m (by simp) hd hR h
    simpa [List.range_eq_range'] using this
  | true =>
    have hok2 : (quietB cx ops || headTailB cx ops) = true ∨ cond (guardsB ops) (mixB cx ops) (floatB cx ops || mixAB cx ops) = true := by simpa using hok.2
    unfold regionE at h
    rw [Bool.not_true, Bool.false_or] at h
    have hg : Grow m.w { m.w with drawn := m.w.drawn + 1 } := Grow.drew m.w
    cases hq : (quietB cx ops || headTailB cx ops) with
    | true =>
      rw [hq, cond_true] at h
      rcases Bool.or_eq_true _ _ ▸ hq with hok | hok
      · simp only [quietB, Bool.and_eq_true, List.all_eq_true] at hok
        exact wp_region_quiet (C := Grow m.w) hm hok.2 hg (region_quiet hT hF hG hQ ops.toList st a m hd hok.1 hR h)
      · unfold headTailB at hok
        have hsp := softPre_soft (cx := cx) ops.toList
        generalize softPre cx ops.toList = k at *
        rw [← List.take_append_drop k ops.toList, regionS_append] at h
        refine wp_region_quiet_tail (C := Grow m.w) k hm hok hg ?_
        refine region_quiet (K := fun st => regionS cx ops (ops.toList.drop k) st K) (Q := fun _ a' w' => wpList P ops Q (ops.toList.drop k) a' w') hT hF hG (fun st' a' m' hR' h' => ?_) (ops.toList.take k) st a m (fun o ho => hd o (List.mem_of_mem_take ho)) hsp hR h
        have hidx : ∀ j, (ops.toList.drop k)[j]? = ops[k + j]? := fun j => by simp [List.getElem?_drop]
        have := region_seq hT hF hG hQ (ops.toList.drop k) k st' a' m' hidx (fun o ho => hd o (List.mem_of_mem_drop ho)) hR' h'
        rw [wpOps_eq_wpList _ k hidx] at this
        exact this
    | false =>
      rw [hq, cond_false] at h
      have hok3 : cond (guardsB ops) (mixB cx ops) (floatB cx ops || mixAB cx ops) = true := by
        rcases hok2 with h | h
        · rw [hq] at h; cases h
        · exact h
      cases hgb : guardsB ops with
      | true =>
        rw [hgb, cond_true] at h hok3
        simp only [mixB, Bool.and_eq_true] at hok3
        obtain ⟨⟨_, hsel⟩, _⟩ := hok3
        split at h
        · rename_i S hS
          refine wp_region_any hm ?_
          have hcl : Closed ops (Array.replicate ops.size false) := ⟨by simp, fun j oj _ hl => by rw [getD_replicate_false] at hl; cases hl⟩
          exact wpAny_of_G (fun _ _ h => h) _ _ _ _ (region_mix (Q := fun a w => Q .normal a w) hT hF hG hQ hd hsel ops.size _ S st a (m.at { m.w with drawn := m.w.drawn + 1 }) (fun _ _ _ => True) [] hS hcl (hR.grow hg) (fun k hk => by cases hk) (fun _ _ _ _ => trivial) (fun _ _ _ _ _ _ => trivial) (fun k hk => by cases hk) h)
        · cases h
      | false =>
      rw [hgb, cond_false] at h hok3
      cases hfl : floatB cx ops with
      | false =>
        rw [hfl, cond_false] at h
        rw [hfl, Bool.false_or] at hok3
        simp only [mixAB, Bool.and_eq_true] at hok3
        obtain ⟨⟨hsel, hdst⟩, _⟩ := hok3
        split at h
        · rename_i S hS
          refine wp_region_any hm ?_
          have hcl : Closed ops (Array.replicate ops.size false) := ⟨by simp, fun j oj _ hl => by rw [getD_replicate_false] at hl; cases hl⟩
          have key := region_mixA (Q := fun a w => Q .normal a w) hT hF hG hQ hd hsel hdst _ ops.size _ _ false S (killS ops S st) a (m.at { m.w with drawn := m.w.drawn + 1 }) (fun _ _ _ => True) [] [] [] w0 O0 (Nat.le_refl _) (fun k hk => by cases hk) hS (by simp) (fun j => by simp) hcl (by simp) ((RelD.start (hR.grow hg)).kill S) (fun t ht => killS_dead ht) (fun k hk => by cases hk) (fun _ _ _ _ => trivial) (fun _ _ _ _ _ _ => trivial) (fun _ k hk => by cases hk) h
          exact wpAny_of_G (fun _ _ h => h) _ _ _ _ key
        · cases h
      | true =>
      rw [hfl, cond_true] at h
      simp only [floatB, Bool.and_eq_true, decide_eq_true_eq] at hfl
      obtain ⟨⟨hsel, hlen⟩, hB⟩ := hfl
      refine wp_region_any hm ?_
      have hcl : Closed ops (Array.replicate ops.size false) := ⟨by simp, fun j oj _ hl => by rw [getD_replicate_false] at hl; cases hl⟩
      have := region_head (Q := fun a w => Q .normal a w) hT hF hG hQ hd hsel (m.at { m.w with drawn := m.w.drawn + 1 }) rfl (floatH cx ops) _ st a hcl hB (hR.grow hg) h
      rw [hlen] at this
      exact wpAny_of_G (fun _ _ h => h) _ _ _ _ this
end
end Go.Fm
