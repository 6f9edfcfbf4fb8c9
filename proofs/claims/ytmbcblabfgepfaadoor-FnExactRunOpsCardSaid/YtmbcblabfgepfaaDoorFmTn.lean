/- The functional machine: memory turned. -/
import Derived.Test.YtmbcblabfgepfaaDoorFmO
set_option autoImplicit true
set_option linter.unusedVariables false
set_option linter.unusedSimpArgs false
set_option linter.unusedSectionVars false
namespace Go.Fm
variable [Strict]

section
variable {P : Program} {cx : Ctx} {st st' : St} {a : Act} {m m' : Mem} {w0 : World} {O0 : OX} {n : Nat} {R : Type} {r : R} {G : World → Prop} {o : Oper} {K : St → Option R}

/-- memory turned: some nodes' blocks are given free, new nodes come -/
structure Turn (m m' : Mem) (F : Nat → Prop) : Prop where
  X : m'.X = m.X
  free : ∀ b, F b → m.own b
  frame : Frame0 m.w F m'.w
  used : ∀ q, m.used q = true → m'.used q = true
  loc : ∀ q, m.used q = true → m'.loc q = m.loc q
  old : ∀ q x, m.used q = true → m'.nodes q = some x → m.nodes q = some x ∧ ∀ b, Blk (m.loc q) b → ¬ F b
  blk : ∀ q x, m.used q = false → m'.nodes q = some x → ∀ b, Blk (m'.loc q) b → F b ∨ m.w.heap.size ≤ b
theorem Turn.le {F : Nat → Prop} (h : Turn m m' F) (hok : Ok m w0 O0) : m.le m' where
  keep := ⟨fun b hb ho => h.frame.block b hb fun hf => ho (.inl (h.free b hf)), by
    rintro b hb (⟨q, x, h1, h2⟩ | hX)
    rotate_left
    · rw [h.X] at hX; exact .inr hX
    cases hu : m.used q with
    | true =>
      rw [h.loc q hu] at h2
      exact .inl ⟨q, x, (h.old q x hu h1).1, h2⟩
    | false =>
      rcases h.blk q x hu h1 b h2 with h3 | h3
      · exact .inl (h.free b h3)
      · omega⟩
  used := h.used
  loc := h.loc
  node := fun q x hu hn => .inr ⟨x, (h.old q x hu hn).1, shape.refl x⟩
theorem Turn.rel {F : Nat → Prop} (h : Turn m m' F) (hR : Rel st a m w0 O0 n) (hs : st'.slots = st.slots) (hn : m'.nodes = st'.nodes) (hus : m'.used = st'.used)
    (hnew : ∀ q x, m.used q = false → m'.nodes q = some x → m'.used q = true ∧ NodeRel m' q x)
    (hinj : ∀ q q' x x' b, m.used q = false → m.used q' = false → m'.nodes q = some x → m'.nodes q' = some x' → Blk (m'.loc q) b → Blk (m'.loc q') b → q = q') : Rel st' a m' w0 O0 n := by
  have hle := h.le hR.ok
  have hfr : Frame0 m.w m.own m'.w := ⟨h.frame.os, h.frame.tape, h.frame.output, h.frame.size, fun b hb ho => h.frame.block b hb fun hf => ho (h.free b hf)⟩
  refine ⟨hn, hus, hR.ok.change h.X hfr ?_ ?_ ?_ ?_, fun t => by rw [hs]; exact SRel.mono hle _ (hR.slot t), hR.defers, hR.size, hR.fixed⟩
  · intro q x hq
    cases hu : m.used q with
    | true =>
      obtain ⟨h1, h2⟩ := h.old q x hu hq
      exact (hR.ok.node q x h1).mono hle hu fun b hb => h.frame.block b ((hR.ok.node q x h1).blk_lt hb) (h2 b hb)
    | false => exact (hnew q x hu hq).2
  · intro q x hq
    cases hu : m.used q with
    | true => exact h.used q hu
    | false => exact (hnew q x hu hq).1
  · rintro b ⟨q, x, h1, h2⟩
    cases hu : m.used q with
    | true => rw [h.loc q hu] at h2; exact .inl ⟨q, x, (h.old q x hu h1).1, h2⟩
    | false =>
      rcases h.blk q x hu h1 b h2 with h3 | h3
      · exact .inl (h.free b h3)
      · exact .inr h3
  · intro q q' x x' b hq hq' hb hb'
    cases hu : m.used q with
    | true =>
      obtain ⟨h1, h2⟩ := h.old q x hu hq
      rw [h.loc q hu] at hb
      cases hu' : m.used q' with
      | true =>
        rw [h.loc q' hu'] at hb'
        exact hR.ok.inj q q' x x' b h1 (h.old q' x' hu' hq').1 hb hb'
      | false =>
        rcases h.blk q' x' hu' hq' b hb' with h3 | h3
        · exact absurd h3 (h2 b hb)
        · have := (hR.ok.node q x h1).blk_lt hb; omega
    | false =>
      cases hu' : m.used q' with
      | true =>
        obtain ⟨h1, h2⟩ := h.old q' x' hu' hq'
        rw [h.loc q' hu'] at hb'
        rcases h.blk q x hu hq b hb with h3 | h3
        · exact absurd h3 (h2 b hb')
        · have := (hR.ok.node q' x' h1).blk_lt hb'; omega
      | false => exact hinj q q' x x' b hu hu' hq hq' hb hb'

end
end Go.Fm
