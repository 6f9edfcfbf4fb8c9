/- The functional machine: a function's contract. -/
import Derived.Test.YtmbcblabfgepfaaDoorFmV
set_option autoImplicit true
set_option linter.unusedVariables false
set_option linter.unusedSimpArgs false
set_option linter.unusedSectionVars false
namespace Go.Fm
variable [Strict]

def toA : (i : Nat) → (ps : List PS) → ArgsT ps → List (Sigma LM.T)
  | _, [], _ => []
  | i, .val k :: ps, v => ⟨.val i k, v.1⟩ :: toA (i + 1) ps v.2
  | i, .own ty e :: ps, v => ⟨.own i ty e, v.1⟩ :: toA (i + 1) ps v.2
  | i, .deep ty e ts :: ps, v => ⟨.deep i ty e ts, v.1⟩ :: toA (i + 1) ps v.2
theorem argsSt_eq : ∀ (i : Nat) (ps : List PS) (v : ArgsT ps) (s : St), argsSt i ps v s = (toA i ps v).foldl (fun s x => lay1 s x.1 x.2) s
  | _, [], _, _ => rfl
  | i, .val k :: ps, v, s => by simp only [argsSt, toA, List.foldl_cons]; rw [argsSt_eq]; rfl
  | i, .own ty e :: ps, v, s => by simp only [argsSt, toA, List.foldl_cons]; rw [argsSt_eq]; rfl
  | i, .deep ty e ts :: ps, v, s => by simp only [argsSt, toA, List.foldl_cons]; rw [argsSt_eq]; rfl
theorem toA_ge : ∀ (i : Nat) (ps : List PS) (v : ArgsT ps), ∀ x ∈ toA i ps v, i ≤ x.1.slot
  | _, [], _, x, hx => by simp [toA] at hx
  | i, .val k :: ps, v, x, hx => by
    simp only [toA, List.mem_cons] at hx
    rcases hx with rfl | hx
    · exact Nat.le_refl _
    · have := toA_ge (i + 1) ps v.2 x hx; omega
  | i, .own ty e :: ps, v, x, hx => by
    simp only [toA, List.mem_cons] at hx
    rcases hx with rfl | hx
    · exact Nat.le_refl _
    · have := toA_ge (i + 1) ps v.2 x hx; omega
  | i, .deep ty e ts :: ps, v, x, hx => by
    simp only [toA, List.mem_cons] at hx
    rcases hx with rfl | hx
    · exact Nat.le_refl _
    · have := toA_ge (i + 1) ps v.2 x hx; omega
theorem toA_nodup : ∀ (i : Nat) (ps : List PS) (v : ArgsT ps), ((toA i ps v).map (·.1.slot)).Nodup
  | _, [], _ => by simp [toA]
  | i, .val k :: ps, v => by
    simp only [toA, List.map_cons, List.nodup_cons, List.mem_map, not_exists, not_and]
    exact ⟨fun x hx e => by have := toA_ge (i + 1) ps v.2 x hx; have e' : x.1.slot = i := e; omega, toA_nodup (i + 1) ps v.2⟩
  | i, .own ty e :: ps, v => by
    simp only [toA, List.map_cons, List.nodup_cons, List.mem_map, not_exists, not_and]
    exact ⟨fun x hx e => by have := toA_ge (i + 1) ps v.2 x hx; have e' : x.1.slot = i := e; omega, toA_nodup (i + 1) ps v.2⟩
  | i, .deep ty e ts :: ps, v => by
    simp only [toA, List.map_cons, List.nodup_cons, List.mem_map, not_exists, not_and]
    exact ⟨fun x hx e => by have := toA_ge (i + 1) ps v.2 x hx; have e' : x.1.slot = i := e; omega, toA_nodup (i + 1) ps v.2⟩
def factA (w : World) (O : Nat → Prop) (bl : List Nat) (x : Sigma LM.T) (u d : Value) : Prop := match x with
  | ⟨.val i k, v⟩ => Reg w O k u v
  | ⟨.own i ty e, l⟩ => d = u ∧ ∃ xs, w.ownsRow 0 ty (width e) u (List.length l) xs ∧ Rows (Cells w O e) xs l ∧ ∀ b, Blk u b → b ∈ bl
  | ⟨.deep i ty e ts, l⟩ => hdr d = some u ∧ DeepR w O ty e ts d l (fun _ _ => False) ∧ ∀ b, Blk d b → b ∈ bl
  | ⟨.var _ _, _⟩ => False
  | ⟨.mp _ _ _, _⟩ => False
  | ⟨.arr _ _ _ _, _⟩ => False
  | ⟨.sub _ _, _⟩ => False
  | ⟨.vat _ _ _, _⟩ => False
theorem factA_mono {w : World} {O : Nat → Prop} {bl bl' : List Nat} (h : ∀ b ∈ bl, b ∈ bl') {x : Sigma LM.T} {u d : Value} (hf : factA w O bl x u d) : factA w O bl' x u d := by
  obtain ⟨lm, v⟩ := x
  cases lm with
  | val => exact hf
  | own => obtain ⟨h0, xs, h1, h2, h3⟩ := hf; exact ⟨h0, xs, h1, h2, fun b hb => h b (h3 b hb)⟩
  | deep => obtain ⟨h1, h2, h3⟩ := hf; exact ⟨h1, h2, fun b hb => h b (h3 b hb)⟩
  | var => exact hf
  | mp => exact hf
  | arr => exact hf
  | sub => exact hf
  | vat => exact hf
theorem factA_blk {w : World} {O : Nat → Prop} {bl : List Nat} {x : Sigma LM.T} {u d : Value} (hf : factA w O bl x u d) (hn : (nodeX x).isSome = true) {b : Nat} (hb : Blk d b) : b ∈ bl := by
  obtain ⟨lm, v⟩ := x
  cases lm with
  | val => simp [nodeX] at hn
  | own => obtain ⟨h0, xs, h1, h2, h3⟩ := hf; subst h0; exact h3 b hb
  | deep => obtain ⟨h1, h2, h3⟩ := hf; exact h3 b hb
  | var => exact hf.elim
  | mp => exact hf.elim
  | arr => exact hf.elim
  | sub => exact hf.elim
  | vat => exact hf.elim
/-- the arguments' places -/
structure AllA (w : World) (O : Nat → Prop) (bl : List Nat) (i : Nat) (xs : List (Sigma LM.T)) (us ds : List Value) : Prop where
  len : ds.length = us.length
  fact : ∀ x ∈ xs, ∃ j u d, us[j]? = some u ∧ ds[j]? = some d ∧ x.1.slot = i + j ∧ factA w O bl x u d
  inj : ∀ x ∈ xs, ∀ y ∈ xs, (nodeX x).isSome = true → (nodeX y).isSome = true → ∀ (jx jy : Nat) (dx dy : Value) (b : Nat), x.1.slot = i + jx → y.1.slot = i + jy → ds[jx]? = some dx → ds[jy]? = some dy → Blk dx b → Blk dy b → x.1.slot = y.1.slot
theorem AllA.cons {w : World} {O : Nat → Prop} {bl b1 b2 : List Nat} {i : Nat} {x : Sigma LM.T} {xs : List (Sigma LM.T)} {u d : Value} {us ds : List Value} (h : AllA w O b2 (i + 1) xs us ds) (hbl : bl = b1 ++ b2) (hnd : bl.Nodup) (hx : x.1.slot = i) (hf : factA w O bl x u d) (hb : (nodeX x).isSome = true → ∀ b, Blk d b → b ∈ b1)
    (hge : ∀ y ∈ xs, i + 1 ≤ y.1.slot) : AllA w O bl i (x :: xs) (u :: us) (d :: ds) := by
  subst hbl
  obtain ⟨hn1, hn2, hn3⟩ := List.nodup_append.1 hnd
  have rest : ∀ y ∈ xs, (nodeX y).isSome = true → ∀ (j : Nat) (dy : Value) (b : Nat), y.1.slot = i + j → (d :: ds)[j]? = some dy → Blk dy b → b ∈ b2 := fun y hy hs j dy b hj hdy hbb => by
    obtain ⟨j', u', d', g1, g2, g3, g4⟩ := h.fact y hy
    obtain rfl : j = j' + 1 := by omega
    simp only [List.getElem?_cons_succ] at hdy
    rw [g2] at hdy; cases hdy
    exact factA_blk g4 hs hbb
  refine ⟨by simp [h.len], fun y hy => ?_, fun y hy z hz sy sz jy jz dy dz b ey ez hdy hdz by' bz => ?_⟩
  · rcases List.mem_cons.1 hy with rfl | hy
    · exact ⟨0, u, d, rfl, rfl, by omega, hf⟩
    · obtain ⟨j, u', d', g1, g2, g3, g4⟩ := h.fact y hy
      exact ⟨j + 1, u', d', by simpa using g1, by simpa using g2, by omega, factA_mono (fun b hb => List.mem_append.2 (.inr hb)) g4⟩
  · rcases List.mem_cons.1 hy with e1 | hy'
    · subst e1
      have hj : jy = 0 := by omega
      subst hj
      simp at hdy; subst hdy
      rcases List.mem_cons.1 hz with e2 | hz'
      · subst e2; rfl
      · exact absurd rfl (hn3 b (hb sy b by') b (rest z hz' sz jz dz b ez hdz bz))
    · rcases List.mem_cons.1 hz with e2 | hz'
      · subst e2
        have hj : jz = 0 := by omega
        subst hj
        simp at hdz; subst hdz
        exact absurd rfl (hn3 b (hb sz b bz) b (rest y hy' sy jy dy b ey hdy by'))
      · have g1 := hge y hy'
        have g2 := hge z hz'
        obtain ⟨jy', rfl⟩ : ∃ j, jy = j + 1 := ⟨jy - 1, by omega⟩
        obtain ⟨jz', rfl⟩ : ∃ j, jz = j + 1 := ⟨jz - 1, by omega⟩
        exact h.inj y hy' z hz' sy sz jy' jz' dy dz b (by omega) (by omega) (by simpa using hdy) (by simpa using hdz) by' bz
theorem toA_all {w : World} {O : Nat → Prop} : ∀ (i : Nat) (ps : List PS) (v : ArgsT ps) (us : List Value) (bl : List Nat), ArgsOK w O ps v us bl → bl.Nodup → us.length = ps.length ∧ ∃ ds, AllA w O bl i (toA i ps v) us ds
  | _, [], _, us, bl, h, _ => ⟨by rw [h.1]; rfl, [], by rw [h.1], fun x hx => by simp [toA] at hx, fun x hx => by simp [toA] at hx⟩
  | i, .val k :: ps, v, us, bl, h, hnd => by
    obtain ⟨u, us', rfl, h1, h2⟩ := h
    obtain ⟨h3, ds, h4⟩ := toA_all (i + 1) ps v.2 us' bl h2 hnd
    exact ⟨by simp [h3], u :: ds, AllA.cons (b1 := []) h4 rfl hnd rfl h1 (fun hs => by simp [nodeX] at hs) (fun y hy => toA_ge (i + 1) ps v.2 y hy)⟩
  | i, .own ty e :: ps, v, us, bl, h, hnd => by
    obtain ⟨u, us', xs, b2, rfl, rfl, h1, h2, h3⟩ := h
    obtain ⟨hn1, hn2, hn3⟩ := List.nodup_append.1 hnd
    obtain ⟨h4, ds, h5⟩ := toA_all (i + 1) ps v.2 us' b2 h3 hn2
    have hb : ∀ b, Blk u b → b ∈ (blkOf u).toList := fun b hb => by rw [(own_blk h1).1 hb]; simp
    exact ⟨by simp [h4], u :: ds, AllA.cons h5 rfl hnd rfl ⟨rfl, xs, h1, h2, fun b hbb => List.mem_append.2 (.inl (hb b hbb))⟩ (fun _ => hb) (fun y hy => toA_ge (i + 1) ps v.2 y hy)⟩
  | i, .deep ty e ts :: ps, v, us, bl, h, hnd => by
    obtain ⟨u, us', d, b2, rfl, rfl, h1, h2, h3⟩ := h
    obtain ⟨hn1, hn2, hn3⟩ := List.nodup_append.1 hnd
    obtain ⟨h4, ds, h5⟩ := toA_all (i + 1) ps v.2 us' b2 h3 hn2
    exact ⟨by simp [h4], d :: ds, AllA.cons h5 rfl hnd rfl ⟨h1, h2, fun b hbb => List.mem_append.2 (.inl (mem_blks.2 hbb))⟩ (fun _ b hb => mem_blks.2 hb) (fun y hy => toA_ge (i + 1) ps v.2 y hy)⟩

theorem entry_flat {w : World} {ps : List PS} {v : ArgsT ps} {args : List Value} {bl : List Nat} {X : Nat → Prop} (h : ArgsOK w (fun b => b ∈ bl ∨ X b) ps v args bl) (hnd : bl.Nodup) (hX : ∀ b, X b → b < w.heap.size ∧ ¬ b ∈ bl) {fx : Nat → Option Value} (hfx : ∀ t u, fx t = some u → args[t]? = some u) {n : Nat} (hn : ps.length ≤ n) :
    ∃ m, m.w = w ∧ Rel (argsSt 0 ps v St.empty) { tmps := args.toArray ++ Array.replicate (n - args.toArray.size) undef, defers := [] } m w ⟨(· ∈ bl), X, fx⟩ n := by
  obtain ⟨hlen, ds, hA⟩ := toA_all 0 ps v args bl h hnd
  have hfact := hA.fact
  obtain ⟨hS, hN⟩ := fold_sound (toA 0 ps v) St.empty (toA_nodup 0 ps v)
  have henc : argsSt 0 ps v St.empty = (toA 0 ps v).foldl (fun s x => lay1 s x.1 x.2) St.empty := argsSt_eq 0 ps v St.empty
  rw [← henc] at hS hN
  have hfact' : ∀ x ∈ toA 0 ps v, ∃ u d, args[x.1.slot]? = some u ∧ ds[x.1.slot]? = some d ∧ factA w (fun b => b ∈ bl ∨ X b) bl x u d := fun x hx => by
    obtain ⟨j, u, d, h1, h2, h3, h4⟩ := hfact x hx
    rw [show x.1.slot = j by omega]; exact ⟨u, d, h1, h2, h4⟩
  let m : Mem := ⟨w, (argsSt 0 ps v St.empty).nodes, (argsSt 0 ps v St.empty).used, fun t => ds.getD t undef, X⟩
  have hloc : ∀ t u, ds[t]? = some u → m.loc t = u := fun t u hu => by simp [m, List.getD, hu]
  have hnode : ∀ t nd, (argsSt 0 ps v St.empty).nodes t = some nd → ∃ x ∈ toA 0 ps v, x.1.slot = t ∧ nodeX x = some nd ∧ (argsSt 0 ps v St.empty).used t = true := by
    intro t nd hnd
    rcases hN t with ⟨x, hx, h3, h4, h5, h6⟩ | ⟨h3, h4, h5⟩
    · exact ⟨x, hx, h3, by rw [← h5]; exact hnd, h6⟩
    · rw [h4] at hnd; cases hnd
  have hO : ∀ b, m.own b → b ∈ bl := by
    rintro b ⟨t, nd, h1, h2⟩
    obtain ⟨x, hx, h3, h4, _⟩ := hnode t nd h1
    obtain ⟨u, d, _, h5, h6⟩ := hfact' x hx
    rw [h3] at h5
    rw [hloc t d h5] at h2
    exact factA_blk h6 (by rw [h4]; rfl) h2
  have hO1 : ∀ b, m.O b → b ∈ bl ∨ X b := fun b hb => hb.imp (hO b) id
  have hkeep : ∀ {k : Kind} {cs : List Value} {u : k.T}, Cells w (fun b => b ∈ bl ∨ X b) k cs u → Cells w m.O k cs u := fun hc => hc.keep (Keep.less hO1)
  refine ⟨m, rfl, rfl, rfl, ⟨?_, ?_, ?_, Frame0.refl w _, fun b hb => .inr (hO b hb), rfl, hX⟩, ?_, rfl, by simp [hlen]; omega, fun t u hu => ?_⟩
  rotate_left 4
  · have h5 := hfx t u hu
    have hlt : t < args.length := (List.getElem?_eq_some_iff.1 h5).1
    simp only [Array.getD_eq_getD_getElem?]
    rw [Array.getElem?_append_left (by simpa using hlt)]
    simp [h5]
  · intro t nd hnd'
    obtain ⟨x, hx, h3, h4, _⟩ := hnode t nd hnd'
    obtain ⟨u, d, _, h5, h6⟩ := hfact' x hx
    rw [h3] at h5
    have hl := hloc t d h5
    obtain ⟨lm, val⟩ := x
    cases lm with
    | val => simp [nodeX] at h4
    | own i ty e =>
      simp only [nodeX, Option.some.injEq] at h4
      subst h4
      obtain ⟨e0, xs, g1, g2, _⟩ := h6
      subst e0
      refine ⟨xs, ?_, g2.imp fun c x hc => hkeep hc⟩
      rw [hl]; exact g1
    | deep i ty e ts =>
      simp only [nodeX, Option.some.injEq] at h4
      subst h4
      obtain ⟨g1, g2, _⟩ := h6
      show DeepR w m.O ty e ts (m.loc t) val (fun _ _ => False)
      rw [hl]; exact g2.flat_any
    | var => exact h6.elim
    | mp => exact h6.elim
    | arr => exact h6.elim
    | sub => exact h6.elim
    | vat => exact h6.elim
  · intro t nd hnd'
    obtain ⟨x, hx, h3, h4, h5⟩ := hnode t nd hnd'
    exact h5
  · intro t t' nd nd' b h1 h2 h3 h4
    obtain ⟨x, hx, g1, g2, _⟩ := hnode t nd h1
    obtain ⟨y, hy, g3, g4, _⟩ := hnode t' nd' h2
    obtain ⟨_, ux, _, g5, _⟩ := hfact' x hx
    obtain ⟨_, uy, _, g6, _⟩ := hfact' y hy
    rw [g1] at g5; rw [g3] at g6
    rw [hloc t ux g5] at h3
    rw [hloc t' uy g6] at h4
    have := hA.inj x hx y hy (by rw [g2]; rfl) (by rw [g4]; rfl) t t' ux uy b (by omega) (by omega) g5 g6 h3 h4
    omega
  · intro t
    rcases hS t with ⟨x, hx, h3, h4⟩ | ⟨h3, h4⟩
    · rw [h4]
      obtain ⟨u, d, h5, h5', h6⟩ := hfact' x hx
      rw [h3] at h5 h5'
      have hl := hloc t d h5'
      have hu : ({ tmps := args.toArray ++ Array.replicate (n - args.toArray.size) undef, defers := [] } : Act).tmps.getD t undef = u := by
        have hlt : t < args.length := (List.getElem?_eq_some_iff.1 h5).1
        simp only [Array.getD_eq_getD_getElem?]
        rw [Array.getElem?_append_left (by simpa using hlt)]
        simp [h5]
      rw [hu]
      have hused : (nodeX x).isSome = true → (argsSt 0 ps v St.empty).used t = true := by
        intro hs
        rcases hN t with ⟨y, hy, g1, g2, g3, g4⟩ | ⟨g1, _, _⟩
        · exact g4
        · rw [g1 x hx h3] at hs; cases hs
      obtain ⟨lm, val⟩ := x
      cases lm with
      | val i k =>
        simp only [slotX, SRel]
        exact Reg.keep (Keep.less hO1) (O := (fun b => b ∈ bl ∨ X b)) h6
      | own i ty e =>
        obtain ⟨e0, xs, g1, g2, _⟩ := h6
        subst e0
        obtain ⟨B, c, g3, _⟩ := row_val g1
        have hi : i = t := h3
        subst hi
        simp only [slotX, SRel]
        exact ⟨hused (by simp [nodeX]), ⟨B, _, c, g3⟩, fun _ _ _ _ => hl.symm⟩
      | deep i ty e ts =>
        obtain ⟨g1, g2, _⟩ := h6
        obtain ⟨B, c, g3⟩ := g2.hdr
        have hi : i = t := h3
        subst hi
        simp only [slotX, SRel]
        exact ⟨hused (by simp [nodeX]), by rw [hl]; exact g1, B, _, c, by rw [g1] at g3; exact Option.some.inj g3⟩
      | var => exact h6.elim
      | mp => exact h6.elim
      | arr => exact h6.elim
      | sub => exact h6.elim
      | vat => exact h6.elim
    · rw [h4]; exact SRel.dead _ _


/-! ### arguments that are put together -/
def FormL : List Kind → List Value → Prop
  | [], [] => True
  | k :: ks, u :: us => Form k u ∧ FormL ks us
  | _, _ => False
theorem FormL.drop : ∀ {n : Nat} {ks : List Kind} {us : List Value}, FormL ks us → FormL (ks.drop n) (us.drop n)
  | 0, _, _, h => h
  | n + 1, [], [], h => h
  | n + 1, k :: ks, u :: us, h => FormL.drop (n := n) h.2
  | n + 1, [], _ :: _, h => h.elim
  | n + 1, _ :: _, [], h => h.elim
theorem FormL.take : ∀ {n : Nat} {ks : List Kind} {us : List Value}, FormL ks us → FormL (ks.take n) (us.take n)
  | 0, _, _, h => trivial
  | n + 1, [], [], h => trivial
  | n + 1, k :: ks, u :: us, h => ⟨h.1, FormL.take (n := n) h.2⟩
  | n + 1, [], _ :: _, h => h.elim
  | n + 1, _ :: _, [], h => h.elim
theorem FormL.len : ∀ {ks : List Kind} {us : List Value}, FormL ks us → us.length = ks.length
  | [], [], h => rfl
  | k :: ks, u :: us, h => by simp [FormL.len h.2]
  | [], _ :: _, h => h.elim
  | _ :: _, [], h => h.elim
theorem args_forms {w : World} {O : Nat → Prop} : ∀ {ps : List PS} {v : ArgsT ps} {us : List Value} {bl : List Nat}, ArgsOK w O ps v us bl → FormL (ps.map PS.kind) us
  | [], v, us, bl, h => by rw [h.1]; trivial
  | .val k :: ps, v, us, bl, h => by
    obtain ⟨u, us', rfl, h1, h2⟩ := h
    exact ⟨h1.form, args_forms h2⟩
  | .own ty e :: ps, v, us, bl, h => by
    obtain ⟨u, us', xs, b2, rfl, rfl, h1, h2, h3⟩ := h
    obtain ⟨B, c, g3, _⟩ := row_val h1
    refine ⟨?_, args_forms h3⟩
    subst g3
    unfold Form
    rw [if_neg (by simp [PS.kind, aggB])]
    exact ⟨rfl, rfl⟩
  | .deep ty e ts :: ps, v, us, bl, h => by
    obtain ⟨u, us', d, b2, rfl, rfl, h1, h2, h3⟩ := h
    obtain ⟨B, c, g3⟩ := h2.hdr
    rw [h1] at g3
    have g3 := Option.some.inj g3
    refine ⟨?_, args_forms h3⟩
    subst g3
    unfold Form
    rw [if_neg (by simp [PS.kind, aggB])]
    exact ⟨rfl, rfl⟩
def AllF (m : Mem) : List Kind → List Slot → List Value → Prop
  | [], [], [] => True
  | k :: ks, x :: xs, u :: us => (SRel m x u ∧ Form k u ∧ fitsD k x = true ∧ oneK k = true) ∧ AllF m ks xs us
  | _, _, _ => False
theorem AllF.of {m : Mem} : ∀ {ks : List Kind} {xs : List Slot} {us : List Value}, xs.length = ks.length → us.length = ks.length →
    (∀ (j : Nat) (k : Kind) (x : Slot) (u : Value), ks[j]? = some k → xs[j]? = some x → us[j]? = some u → SRel m x u ∧ Form k u ∧ fitsD k x = true ∧ oneK k = true) → AllF m ks xs us
  | [], [], [], _, _, _ => trivial
  | k :: ks, x :: xs, u :: us, h1, h2, h => ⟨h 0 k x u rfl rfl rfl, AllF.of (by simpa using h1) (by simpa using h2) fun j k x u hk hx hu => h (j + 1) k x u (by simpa using hk) (by simpa using hx) (by simpa using hu)⟩
  | [], _ :: _, _, h1, _, _ => by simp at h1
  | [], [], _ :: _, _, h2, _ => by simp at h2
  | _ :: _, [], _, h1, _, _ => by simp at h1
  | _ :: _, _ :: _, [], _, h2, _ => by simp at h2
theorem AllF.drop {m : Mem} : ∀ {n : Nat} {ks : List Kind} {xs : List Slot} {us : List Value}, AllF m ks xs us → AllF m (ks.drop n) (xs.drop n) (us.drop n)
  | 0, _, _, _, h => h
  | n + 1, [], [], [], h => h
  | n + 1, k :: ks, x :: xs, u :: us, h => AllF.drop (n := n) h.2
  | n + 1, [], _ :: _, _, h => h.elim
  | n + 1, [], [], _ :: _, h => h.elim
  | n + 1, _ :: _, [], _, h => h.elim
  | n + 1, _ :: _, _ :: _, [], h => h.elim
theorem AllF.take {m : Mem} : ∀ {n : Nat} {ks : List Kind} {xs : List Slot} {us : List Value}, AllF m ks xs us → AllF m (ks.take n) (xs.take n) (us.take n)
  | 0, _, _, _, h => trivial
  | n + 1, [], [], [], h => trivial
  | n + 1, k :: ks, x :: xs, u :: us, h => ⟨h.1, AllF.take (n := n) h.2⟩
  | n + 1, [], _ :: _, _, h => h.elim
  | n + 1, [], [], _ :: _, h => h.elim
  | n + 1, _ :: _, [], _, h => h.elim
  | n + 1, _ :: _, _ :: _, [], h => h.elim
theorem AllF.len {m : Mem} : ∀ {ks : List Kind} {xs : List Slot} {us : List Value}, AllF m ks xs us → xs.length = ks.length ∧ us.length = ks.length
  | [], [], [], _ => ⟨rfl, rfl⟩
  | k :: ks, x :: xs, u :: us, h => by obtain ⟨a, b⟩ := AllF.len h.2; exact ⟨by simp [a], by simp [b]⟩
  | [], _ :: _, _, h => h.elim
  | [], [], _ :: _, h => h.elim
  | _ :: _, [], _, h => h.elim
  | _ :: _, _ :: _, [], h => h.elim
theorem oneK_of {k : Kind} (h : oneK k = true) : notPair k ∧ k ≠ .unit := by
  cases k <;> simp [oneK] at h <;> exact ⟨trivial, by simp⟩
theorem AllF.chain {m : Mem} : ∀ {ks : List Kind} {xs : List Slot} {us : List Value}, AllF m ks xs us → ks ≠ [] → SRels m (chainK ks) xs us
  | [], _, _, _, h => absurd rfl h
  | [k], [x], [u], h, _ => by
    obtain ⟨⟨h1, h2, h3, h4⟩, _⟩ := h
    obtain ⟨g1, g2⟩ := oneK_of h4
    simp only [chainK, SRels]
    exact ⟨u, [], rfl, h1, .inr ⟨g1, g2, by simp, by simp, h2, h3⟩⟩
  | k :: k2 :: ks, x :: x2 :: xs, u :: u2 :: us, h, _ => by
    obtain ⟨⟨h1, h2, h3, h4⟩, h5⟩ := h
    have ih := AllF.chain h5 (by simp)
    simp only [chainK]
    rw [SRels]
    exact ⟨u, u2 :: us, rfl, h1, .inl ⟨k, chainK (k2 :: ks), rfl, by simp, h2, h3, ih⟩⟩
  | [_], [], _, h, _ => h.elim
  | [_], [_], [], h, _ => h.elim
  | [_], _ :: _ :: _, [_], h, _ => h.2.elim
  | [_], [_], _ :: _ :: _, h, _ => h.2.elim
  | [_], _ :: _ :: _, [], h, _ => h.elim
  | [_], _ :: _ :: _, _ :: _ :: _, h, _ => h.2.elim
  | _ :: _ :: _, [], _, h, _ => h.elim
  | _ :: _ :: _, [_], [], h, _ => h.elim
  | _ :: _ :: _, [_], [_], h, _ => h.2.elim
  | _ :: _ :: _, [_], _ :: _ :: _, h, _ => h.2.elim
  | _ :: _ :: _, _ :: _ :: _, [], h, _ => h.elim
  | _ :: _ :: _, _ :: _ :: _, [_], h, _ => h.2.elim
theorem chain_inj {m : Mem} : ∀ {ks : List Kind} {l : List Slot} {us us2 : List Value}, SRels m (chainK ks) l us2 → l.length = ks.length → FormL ks us → catCells us2 = catCells us → us2 = us
  | [], l, us, us2, h1, hl, h2, he => by
    cases us with
    | nil =>
      have : l = [] := List.length_eq_zero_iff.1 (by simpa using hl)
      subst this
      simp only [chainK, SRels] at h1
      exact h1.2
    | cons u us => exact h2.elim
  | [k], l, us, us2, h1, hl, h2, he => by
    obtain ⟨x, rfl⟩ := List.length_eq_one_iff.1 (show l.length = 1 by simpa using hl)
    cases us with
    | nil => exact h2.elim
    | cons u us =>
      cases us with
      | cons _ _ => exact h2.2.elim
      | nil =>
        simp only [chainK, SRels] at h1
        obtain ⟨u', vs, rfl, g1, g2⟩ := h1
        rcases g2 with ⟨a, b, rfl, e1, _⟩ | ⟨e1, e2, _, rfl, e3, e4⟩
        · exact absurd rfl e1
        · simp only [catCells, List.map_cons, List.map_nil, List.flatten_cons, List.flatten_nil, List.append_nil] at he
          rw [← e3.reg, ← h2.1.reg, he]
  | k :: k2 :: ks, l, us, us2, h1, hl, h2, he => by
    cases l with
    | nil => simp at hl
    | cons x l =>
      cases us with
      | nil => exact h2.elim
      | cons u us =>
        simp only [chainK] at h1
        rw [SRels] at h1
        obtain ⟨u', vs, rfl, g1, g2⟩ := h1
        rcases g2 with ⟨a, b, hk, e1, e2, e3, e4⟩ | ⟨e1, _⟩
        · cases hk
          simp only [catCells, List.map_cons, List.flatten_cons] at he
          have hlen : u'.cells.toList.length = u.cells.toList.length := by simp only [Array.length_toList]; rw [e2.size, h2.1.size]
          obtain ⟨f1, f2⟩ := List.append_inj he hlen
          have : u' = u := by rw [← e2.reg, ← h2.1.reg, f1]
          subst this
          rw [chain_inj (ks := k2 :: ks) e4 (by simpa using hl) h2.2 f2]
        · exact e1.elim
theorem packL_sound {m : Mem} : ∀ {sh : List Nat} {ks : List Kind} {xs : List Slot} {us : List Value}, AllF m ks xs us → totSh sh = ks.length → STup m (packL sh ks xs) (pack sh us)
  | [], ks, xs, us, h, ht => by
    have hk : ks = [] := List.length_eq_zero_iff.1 (by simpa [totSh] using ht.symm)
    subst hk
    obtain ⟨h1, h2⟩ := h.len
    have : xs = [] := List.length_eq_zero_iff.1 (by simpa using h1)
    subst this
    have : us = [] := List.length_eq_zero_iff.1 (by simpa using h2)
    subst this
    simp [packL, pack, STup]
  | 0 :: sh, ks, xs, us, h, ht => by
    simp only [totSh] at ht
    cases ks with
    | nil => simp at ht
    | cons k ks =>
      cases xs with
      | nil => exact h.elim
      | cons x xs =>
        cases us with
        | nil => exact h.elim
        | cons u us =>
          simp only [packL, pack, List.headD_cons, List.tail_cons, STup]
          exact ⟨u, _, rfl, h.1.1, packL_sound h.2 (by simpa using ht)⟩
  | (n + 1) :: sh, ks, xs, us, h, ht => by
    simp only [totSh] at ht
    simp only [packL, pack, STup]
    refine ⟨_, _, rfl, ?_, packL_sound h.drop (by simp; omega)⟩
    simp only [SRel]
    refine ⟨_, us.take (n + 1), rfl, rfl, AllF.chain h.take ?_⟩
    intro hk
    have := congrArg List.length hk
    simp at this
    subst this
    simp at ht
theorem pack_len : ∀ {sh : List Nat} {us : List Value}, totSh sh = us.length → (pack sh us).length = sh.length
  | [], us, h => by simpa [pack, totSh] using h.symm
  | 0 :: sh, us, h => by
    simp only [totSh] at h
    simp only [pack, List.length_cons]
    rw [pack_len (by simp; omega)]
  | (n + 1) :: sh, us, h => by
    simp only [totSh] at h
    simp only [pack, List.length_cons]
    rw [pack_len (by simp; omega)]
theorem STup_dead {m : Mem} : ∀ {us : List Value}, STup m (List.replicate us.length .dead) us
  | [] => by simp [STup]
  | u :: us => by simp only [List.length_cons, List.replicate_succ, STup]; exact ⟨u, us, rfl, SRel.dead _ _, STup_dead⟩
theorem STup_of {m : Mem} : ∀ {xs : List Slot} {us : List Value}, xs.length = us.length → (∀ (j : Nat) (x : Slot) (u : Value), xs[j]? = some x → us[j]? = some u → SRel m x u) → STup m xs us
  | [], [], _, _ => by simp [STup]
  | x :: xs, u :: us, h1, h => by
    simp only [STup]
    exact ⟨u, us, rfl, h 0 x u rfl rfl, STup_of (by simpa using h1) fun j x u hx hu => h (j + 1) x u (by simpa using hx) (by simpa using hu)⟩
  | [], _ :: _, h1, _ => by simp at h1
  | _ :: _, [], h1, _ => by simp at h1
theorem STup_getD {m : Mem} {xs : List Slot} {us : List Value} (h : STup m xs us) {i : Nat} {u : Value} (hu : us[i]? = some u) : SRel m (xs.getD i .dead) u := by
  have hlen := SRels_tup_len h
  have hlt : i < xs.length := by rw [← hlen]; exact (List.getElem?_eq_some_iff.1 hu).1
  obtain ⟨u', h1, h2⟩ := STup_get h (List.getElem?_eq_getElem hlt)
  rw [hu] at h1
  cases h1
  simpa [List.getD, List.getElem?_eq_getElem hlt] using h2
theorem flatB_sound {m : Mem} : ∀ {sh : List Nat} {ks : List Kind} {xs ys : List Slot} {us : List Value}, FormL ks us → STup m xs (pack sh us) → flatB sh ks xs = some ys → totSh sh = us.length → STup m ys us
  | [], ks, xs, ys, us, hf, hs, h, ht => by simp only [flatB, Option.some.injEq] at h; subst h; exact hs
  | 0 :: sh, ks, [], ys, us, hf, hs, h, ht => by simp [flatB] at h
  | 0 :: sh, ks, x :: xs, ys, us, hf, hs, h, ht => by
    simp only [flatB] at h
    simp only [totSh] at ht
    split at h
    · rename_i l hl
      cases h
      cases us with
      | nil => simp at ht
      | cons u us =>
        cases ks with
        | nil => exact hf.elim
        | cons k ks =>
          simp only [pack, List.headD_cons, List.tail_cons, STup] at hs
          obtain ⟨u', us', e, h1, h2⟩ := hs
          cases e
          simp only [STup]
          exact ⟨u, us, rfl, h1, flatB_sound hf.2 h2 hl (by simpa using ht)⟩
    · cases h
  | (n + 1) :: sh, ks, [], ys, us, hf, hs, h, ht => by simp [flatB] at h
  | (n + 1) :: sh, ks, x :: xs, ys, us, hf, hs, h, ht => by
    simp only [totSh] at ht
    simp only [pack, STup] at hs
    obtain ⟨u', us', e, h1, h2⟩ := hs
    cases e
    have hlt : (us.take (n + 1)).length = n + 1 := by simp; omega
    cases x <;> simp only [flatB] at h <;> (try (cases h; done))
    · split at h
      · rename_i l' hl
        cases h
        have ih := flatB_sound hf.drop h2 hl (by simp; omega)
        have hd := STup_dead (m := m) (us := us.take (n + 1))
        rw [hlt] at hd
        have := STup_append hd ih
        rwa [List.take_append_drop] at this
      · cases h
    · rename_i k l
      cases hb : Nat.beq l.length (Nat.succ n) with
      | false => rw [hb, cond_false] at h; cases h
      | true =>
        rw [hb, cond_true] at h
        have hll : l.length = n + 1 := Nat.eq_of_beq_eq_true hb
        split at h
        · rename_i hk
          split at h
          · rename_i l' hl
            cases h
            have ih := flatB_sound hf.drop h2 hl (by simp; omega)
            simp only [SRel] at h1
            obtain ⟨a', us2, e1, e2, h3⟩ := h1
            rw [hk] at e1
            cases e1
            have hkl : (ks.take (n + 1)).length = n + 1 := by rw [← hf.take.len, hlt]
            have := chain_inj h3 (hll.trans hkl.symm) hf.take (by simpa using e2.symm)
            subst this
            have := STup_append (SRels_tup h3) ih
            rwa [List.take_append_drop] at this
          · cases h
        · cases h
theorem argsSt_lt : ∀ (i : Nat) (ps : List PS) (v : ArgsT ps) (s : St) (t : Nat), t < i → (argsSt i ps v s).slots t = s.slots t
  | _, [], _, _, _, _ => rfl
  | i, .val k :: ps, v, s, t, h => by
    simp only [argsSt]; rw [argsSt_lt (i + 1) ps v.2 _ t (by omega)]; exact upd_other _ _ (by omega)
  | i, .own ty e :: ps, v, s, t, h => by
    simp only [argsSt]; rw [argsSt_lt (i + 1) ps v.2 _ t (by omega)]; exact upd_other _ _ (by omega)
  | i, .deep ty e ts :: ps, v, s, t, h => by
    simp only [argsSt]; rw [argsSt_lt (i + 1) ps v.2 _ t (by omega)]; exact upd_other _ _ (by omega)
theorem argsSt_fits : ∀ (i : Nat) (ps : List PS) (v : ArgsT ps) (s : St) (j : Nat) (k : Kind), (ps.map PS.kind)[j]? = some k → fitsD k ((argsSt i ps v s).slots (i + j)) = true
  | _, [], _, _, _, _, h => by simp at h
  | i, .val k :: ps, v, s, 0, k', h => by
    simp [PS.kind] at h; subst h
    simp only [argsSt, Nat.add_zero]
    rw [argsSt_lt (i + 1) ps v.2 _ i (by omega)]
    simp [upd_same, fitsD, fits]
  | i, .own ty e :: ps, v, s, 0, k', h => by
    simp [PS.kind] at h; subst h
    simp only [argsSt, Nat.add_zero]
    rw [argsSt_lt (i + 1) ps v.2 _ i (by omega)]
    simp [upd_same, fitsD, fits]
  | i, .deep ty e ts :: ps, v, s, 0, k', h => by
    simp [PS.kind] at h; subst h
    simp only [argsSt, Nat.add_zero]
    rw [argsSt_lt (i + 1) ps v.2 _ i (by omega)]
    simp [upd_same, fitsD, fits]
  | i, .val k :: ps, v, s, j + 1, k', h => by
    simp only [argsSt]
    rw [show i + (j + 1) = (i + 1) + j by omega]
    exact argsSt_fits (i + 1) ps v.2 _ j k' (by simpa using h)
  | i, .own ty e :: ps, v, s, j + 1, k', h => by
    simp only [argsSt]
    rw [show i + (j + 1) = (i + 1) + j by omega]
    exact argsSt_fits (i + 1) ps v.2 _ j k' (by simpa using h)
  | i, .deep ty e ts :: ps, v, s, j + 1, k', h => by
    simp only [argsSt]
    rw [show i + (j + 1) = (i + 1) + j by omega]
    exact argsSt_fits (i + 1) ps v.2 _ j k' (by simpa using h)
theorem shB_of {sh : List Nat} {ps : List PS} (h : shB sh ps = true) (hs : sh ≠ []) : totSh sh = ps.length ∧ ∀ p ∈ ps, oneK p.kind = true := by
  cases sh with
  | nil => exact absurd rfl hs
  | cons x l =>
    simp only [shB, Bool.and_eq_true, List.all_eq_true] at h
    exact ⟨Nat.eq_of_beq_eq_true h.1, h.2⟩
theorem entry_sound {w : World} {ps : List PS} {v : ArgsT ps} {args : List Value} {bl : List Nat} {X : Nat → Prop} (h : ArgsOK w (fun b => b ∈ bl ∨ X b) ps v args bl) (hnd : bl.Nodup) (hX : ∀ b, X b → b < w.heap.size ∧ ¬ b ∈ bl) {sh : List Nat} (hsh : shB sh ps = true) {fx : Nat → Option Value} (hfx : ∀ t u, fx t = some u → (pack sh args)[t]? = some u) {n : Nat} (hn : (pack sh args).length ≤ n) :
    ∃ m, m.w = w ∧ Rel (packSt sh ps (argsSt 0 ps v St.empty)) { tmps := (pack sh args).toArray ++ Array.replicate (n - (pack sh args).toArray.size) undef, defers := [] } m w ⟨(· ∈ bl), X, fx⟩ n := by
  have hlen := (toA_all 0 ps v args bl h hnd).1
  by_cases hs : sh = []
  · subst hs
    exact entry_flat h hnd hX hfx (by simpa [pack, hlen] using hn)
  obtain ⟨ht, hone⟩ := shB_of hsh hs
  obtain ⟨m, hw, hR⟩ := entry_flat (fx := fun _ => none) h hnd hX (by simp) (Nat.le_refl _)
  have hpl : (pack sh args).length = sh.length := pack_len (by rw [ht, hlen])
  have hst : packSt sh ps (argsSt 0 ps v St.empty) = { argsSt 0 ps v St.empty with slots := fun t => (packL sh (ps.map PS.kind) ((List.range ps.length).map (argsSt 0 ps v St.empty).slots)).getD t .dead } := by
    cases sh with
    | nil => exact absurd rfl hs
    | cons x l => rfl
  have hforms := args_forms h
  have hall : AllF m (ps.map PS.kind) ((List.range ps.length).map (argsSt 0 ps v St.empty).slots) args := by
    refine AllF.of (by simp) (by simpa using hlen) fun j k x u hk hx hu => ?_
    have hj : j < ps.length := by rw [← hlen]; exact (List.getElem?_eq_some_iff.1 hu).1
    have hx' : (argsSt 0 ps v St.empty).slots j = x := by
      rw [List.getElem?_map, List.getElem?_range hj] at hx
      simpa using hx
    have h1 := hR.slot j
    rw [hx'] at h1
    have hu' : ({ tmps := args.toArray ++ Array.replicate (ps.length - args.toArray.size) undef, defers := [] } : Act).tmps.getD j undef = u := by
      simp only [Array.getD_eq_getD_getElem?]
      rw [Array.getElem?_append_left (by simpa [hlen] using hj)]
      simp [hu]
    rw [hu'] at h1
    have hfm : ∀ {ks : List Kind} {us : List Value} {j : Nat} {k : Kind} {u : Value}, FormL ks us → ks[j]? = some k → us[j]? = some u → Form k u := by
      intro ks
      induction ks with
      | nil => intro us j k u _ hk _; simp at hk
      | cons k0 ks ih =>
        intro us j k u hf hk hu
        cases us with
        | nil => exact hf.elim
        | cons u0 us =>
          cases j with
          | zero => simp at hk hu; subst hk; subst hu; exact hf.1
          | succ j => exact ih hf.2 (by simpa using hk) (by simpa using hu)
    refine ⟨h1, hfm hforms hk hu, ?_, ?_⟩
    · have := argsSt_fits 0 ps v St.empty j k hk
      rwa [Nat.zero_add, hx'] at this
    · rw [List.getElem?_map] at hk
      obtain ⟨p, hp, rfl⟩ := Option.map_eq_some_iff.1 hk
      exact hone p (List.mem_of_getElem? hp)
  have htup := packL_sound (sh := sh) hall (by simpa using ht)
  refine ⟨m, hw, by rw [hst]; exact hR.nodes, by rw [hst]; exact hR.used, ⟨hR.ok.node, hR.ok.used, hR.ok.inj, hR.ok.frame, hR.ok.base, hR.ok.keeps, hR.ok.far⟩, fun t => ?_, rfl, by simp; omega, fun t u hu => ?_⟩
  · rw [hst]
    dsimp only
    by_cases htl : t < (pack sh args).length
    · have hg : (pack sh args)[t]? = some (pack sh args)[t] := List.getElem?_eq_getElem htl
      have := STup_getD htup hg
      have hu' : ({ tmps := (pack sh args).toArray ++ Array.replicate (n - (pack sh args).toArray.size) undef, defers := [] } : Act).tmps.getD t undef = (pack sh args)[t] := by
        simp only [Array.getD_eq_getD_getElem?]
        rw [Array.getElem?_append_left (by simpa using htl)]
        simp [hg]
      rw [hu']
      exact this
    · have : (packL sh (ps.map PS.kind) ((List.range ps.length).map (argsSt 0 ps v St.empty).slots)).getD t .dead = .dead := by
        rw [List.getD, List.getElem?_eq_none (by rw [← SRels_tup_len htup]; omega)]; rfl
      rw [this]
      exact SRel.dead _ _
  · have h5 := hfx t u hu
    have hlt : t < (pack sh args).length := (List.getElem?_eq_some_iff.1 h5).1
    simp only [Array.getD_eq_getD_getElem?]
    rw [Array.getElem?_append_left (by simpa using hlt)]
    simp [h5]
/-- what is given back lies where it lay -/
theorem back_sound {st : St} {a : Act} {m : Mem} {w0 : World} {O0 : OX} {n : Nat} (hR : Rel st a m w0 O0 n) {sh : List Nat} {ps : List PS} {args : List Value} (hsh : shB sh ps = true) (hf : FormL (ps.map PS.kind) args) {fx : List Nat} (hfx : ∀ t, elemB t fx = true → t < (pack sh args).length → O0.fx t = (pack sh args)[t]?) {i : Nat} (hi : i < ps.length) (hin : sh = [] → elemB i fx = true) :
    ∃ u, args[i]? = some u ∧ SRel m (backSl sh ps fx st.slots i) u := by
  have hlen : args.length = ps.length := by simpa using hf.len
  have hia : i < args.length := by omega
  have hg : args[i]? = some args[i] := List.getElem?_eq_getElem hia
  refine ⟨args[i], hg, ?_⟩
  by_cases hs : sh = []
  · subst hs
    have h1 := hR.slot i
    have h2 := hfx i (hin rfl) (by simpa [pack] using hia)
    simp only [pack] at h2
    rw [hg] at h2
    rw [hR.fixed i _ h2] at h1
    exact h1
  · obtain ⟨ht, _⟩ := shB_of hsh hs
    have hpl : (pack sh args).length = sh.length := pack_len (by rw [ht, hlen])
    have hst : backSl sh ps fx st.slots = (match flatB sh (ps.map PS.kind) ((List.range sh.length).map fun t => cond (elemB t fx) (st.slots t) .dead) with
      | some l => fun i => l.getD i .dead
      | none => fun _ => .dead) := by
      cases sh with
      | nil => exact absurd rfl hs
      | cons x l => rfl
    rw [hst]
    cases hfl : flatB sh (ps.map PS.kind) ((List.range sh.length).map fun t => cond (elemB t fx) (st.slots t) .dead) with
    | none => exact SRel.dead _ _
    | some ys =>
      refine STup_getD (flatB_sound hf ?_ hfl (by rw [ht, hlen])) hg
      refine STup_of (by simp [hpl]) fun j x u hx hu => ?_
      have hj : j < sh.length := by rw [← hpl]; exact (List.getElem?_eq_some_iff.1 hu).1
      rw [List.getElem?_map, List.getElem?_range hj] at hx
      simp only [Option.map_some, Option.some.injEq] at hx
      subst hx
      cases hb : elemB j fx with
      | false => exact SRel.dead _ _
      | true =>
        rw [cond_true]
        have h1 := hR.slot j
        have h2 := hfx j hb (by rw [hpl]; exact hj)
        rw [hu] at h2
        rw [hR.fixed j _ h2] at h1
        exact h1

section
variable {P : Program} {st : St} {a : Act} {m : Mem} {w0 : World} {O0 : OX} {n : Nat} {G : World → Prop}

def blocks (m : Mem) (l : List Nat) : List Nat := l.flatMap fun q => blks (m.loc q)
theorem resOne_sound (hR : Rel st a m w0 O0 n) {args : List Value} {sl : Nat → Slot} : ∀ (r : RS) (v : r.T) (ss : List Slot) (us : List Value) (ids ls : List Nat), (∀ i ∈ r.backs, ∃ u, args[i]? = some u ∧ SRel m (sl i) u) → resOne st sl r ss = some (v, ids, ls) → STup m ss us →
    (∀ O' : Nat → Prop, (∀ b, O' b → m.O b) → (∀ q ∈ ls, ∀ b, Blk (m.loc q) b → ¬ O' b) → ROut m.w O' args r v us (blocks m ids)) ∧ (∀ q ∈ ids, ∃ x, st.nodes q = some x) ∧ ∀ q ∈ ls, ∃ x, st.nodes q = some x
  | .val k, v, ss, us, ids, ls, hbk, h, hs => by
    cases ss with
    | nil => simp [resOne] at h
    | cons x l =>
      cases l with
      | cons y l => simp [resOne] at h
      | nil =>
        simp only [resOne] at h
        split at h
        · rename_i v' hv
          simp only [Option.some.injEq, Prod.mk.injEq] at h
          obtain ⟨rfl, rfl, rfl⟩ := h
          simp only [STup] at hs
          obtain ⟨u, us', rfl, h1, h2⟩ := hs
          subst h2
          refine ⟨fun O' hO hl => ⟨rfl, u, rfl, ?_⟩, by simp, fun q hq => asVal_alive 8 x k v' hv q hq⟩
          exact asVal_sound (m := m) (nodes := st.nodes) (fun q x h => by rw [hR.nodes]; exact h) hR.ok.node hO 8 x k v' u hv h1 hl
        · cases h
  | .own ty e, v, ss, us, ids, ls, hbk, h, hs => by
    cases ss with
    | nil => simp [resOne] at h
    | cons x l =>
      cases l with
      | cons y l => simp [resOne] at h
      | nil =>
        simp only [STup] at hs
        obtain ⟨u, us', rfl, h1, h2⟩ := hs
        subst h2
        cases x <;> simp only [resOne] at h <;> (try (cases h; done))
        · simp only [Option.some.injEq, Prod.mk.injEq] at h
          obtain ⟨rfl, rfl, rfl⟩ := h
          simp only [SRel] at h1
          subst h1
          exact ⟨fun O' hO hl => ⟨_, [], rfl, rfl, World.ownsRow_nil _ _ _ _, rfl⟩, by simp, by simp⟩
        · rename_i q
          split at h
          · rename_i ty' e' l' hn
            split at h
            · rename_i hty
              split at h
              · rename_i v' hc
                simp only [Option.some.injEq, Prod.mk.injEq] at h
                obtain ⟨rfl, rfl, rfl⟩ := h
                obtain ⟨hke, hl⟩ := cast?_some hc
                cases hke
                dsimp only at hl; subst hl
                simp only [SRel] at h1
                have h3 := h1.2.2 ty' e l' (by rw [hR.nodes]; exact hn)
                obtain ⟨xs, h4, h5⟩ := row_loc hR hn
                rw [← hty] at h4
                exact ⟨fun O' hO hl => ⟨u, xs, rfl, by simp only [blocks, List.flatMap_cons, List.flatMap_nil, List.append_nil]; rw [h3, blks_own h4], by rw [h3]; exact h4, h5.imp fun c x hc => hc.keep (Keep.less hO)⟩, fun q' hq' => by rw [List.mem_singleton.1 hq']; exact ⟨_, hn⟩, by simp⟩
              · cases h
            · cases h
          · cases h
        · rename_i q lo hi
          split at h
          · rename_i hlo
            split at h
            · rename_i ty' e' l' hn
              split at h
              · rename_i hty
                split at h
                · rename_i v' hc
                  simp only [Option.some.injEq, Prod.mk.injEq] at h
                  obtain ⟨rfl, rfl, rfl⟩ := h
                  obtain ⟨hke, hl⟩ := cast?_some hc
                  cases hke
                  dsimp only at hl; subst hl
                  simp only [SRel] at h1
                  have hn' : m.nodes q = some (.row ty' e l') := by rw [hR.nodes]; exact hn
                  obtain ⟨k0, k1, k2, A, c, k3, k4, _, k5⟩ := h1.2 ty' e l' hn'
                  obtain ⟨n1, k6⟩ := k5 hlo
                  obtain ⟨xs, h4, h5⟩ := row_loc hR hn
                  rw [← hty] at h4
                  have hhi : (hi - lo).toNat = hi.toNat := by omega
                  have hlen : (l'.take hi.toNat).length = hi.toNat := by rw [List.length_take]; omega
                  have hbu : blkOf u = blkOf (m.loc q) := by rw [k3, k6]; cases A <;> rfl
                  have hrow : m.w.ownsRow 0 ty (width e) u (l'.take hi.toNat).length (xs.take (hi.toNat * width e)) := by
                    have hx := h4.1
                    have hle : hi.toNat * width e ≤ l'.length * width e := Nat.mul_le_mul_right _ (by omega)
                    refine ⟨by rw [List.length_take, hlen, hx, Nat.min_eq_left hle], ?_⟩
                    rw [hlen, k3, hhi]
                    rcases h4.2 with ⟨e1, e2⟩ | ⟨g, cap, cur, e1, e0, e2, e3, e4, e5, e6⟩
                    · rw [k6] at e1
                      simp only [Value.slice.injEq] at e1
                      obtain ⟨rfl, _, rfl⟩ := e1
                      have : hi.toNat = 0 := by omega
                      rw [this]
                      exact .inl ⟨rfl, rfl⟩
                    · rw [k6] at e1
                      simp only [Value.slice.injEq] at e1
                      obtain ⟨rfl, _, rfl⟩ := e1
                      refine .inr ⟨g, c, cur, rfl, e0, e2, by omega, e4, e5, ?_⟩
                      rw [← e6, List.take_take, Nat.min_eq_left hle]
                  exact ⟨fun O' hO hl => ⟨u, _, rfl, by simp only [blocks, List.flatMap_cons, List.flatMap_nil, List.append_nil]; rw [blks_own h4, hbu], hrow, (Rows.take (Cells.len e) hi.toNat h5).imp fun c x hc => hc.keep (Keep.less hO)⟩, fun q' hq' => by rw [List.mem_singleton.1 hq']; exact ⟨_, hn⟩, by simp⟩
                · cases h
              · cases h
            · cases h
          · cases h
  | .deep ty e ts, v, ss, us, ids, ls, hbk, h, hs => by
    cases ss with
    | nil => simp [resOne] at h
    | cons x l =>
      cases l with
      | cons y l => simp [resOne] at h
      | nil =>
        simp only [STup] at hs
        obtain ⟨u, us', rfl, h1, h2⟩ := hs
        subst h2
        cases x <;> simp only [resOne] at h <;> (try (cases h; done))
        · cases hB : deepB e ts with
          | false => rw [hB, cond_false] at h; cases h
          | true =>
            rw [hB, cond_true] at h
            simp only [Option.some.injEq, Prod.mk.injEq] at h
            obtain ⟨rfl, rfl, rfl⟩ := h
            simp only [SRel] at h1
            subst h1
            refine ⟨fun O' hO hl => ⟨_, mkLoc (.slice none 0 0) [], rfl, by simp [blocks, blks, mkLoc, blkOf], hdr_mk _ _, ?_⟩, by simp, by simp⟩
            exact ⟨.slice none 0 0, [], [], rfl, hB, rfl, World.ownsRow_nil _ _ _ _, rfl, fun _ _ _ _ _ _ h => by simp at h, ⟨fun _ _ _ _ _ h => by simp at h, fun _ _ _ _ _ _ _ _ _ h => by simp at h⟩⟩
        · rename_i q
          split at h
          · rename_i ty' e' ts' l' hn
            split at h
            · rename_i hty
              split at h
              · rename_i hts
                split at h
                · rename_i v' hc
                  simp only [Option.some.injEq, Prod.mk.injEq] at h
                  obtain ⟨rfl, rfl, rfl⟩ := h
                  obtain ⟨hke, hl⟩ := cast?_some hc
                  cases hke
                  dsimp only at hl; subst hl; subst hty; subst hts
                  simp only [SRel] at h1
                  exact ⟨fun O' hO hl => ⟨u, m.loc q, rfl, by simp [blocks], h1.2.1, (hR.deep hn).flat_any⟩, fun q' hq' => by rw [List.mem_singleton.1 hq']; exact ⟨_, hn⟩, by simp⟩
                · cases h
              · cases h
            · cases h
          · cases h
  | .pair ra rb, v, ss, us, ids, ls, hbk, h, hs => by
    cases ss with
    | nil => simp [resOne] at h
    | cons x l =>
      simp only [resOne] at h
      split at h
      · rename_i u1 r1 q1 u2 r2 q2 h1 h2
        simp only [Option.some.injEq, Prod.mk.injEq] at h
        obtain ⟨rfl, rfl, rfl⟩ := h
        simp only [STup] at hs
        obtain ⟨u, us', rfl, h3, h4⟩ := hs
        obtain ⟨g1, g2, g5⟩ := resOne_sound hR ra u1 [x] [u] r1 q1 (fun i hi => hbk i (List.mem_append_left _ hi)) h1 (by simp only [STup]; exact ⟨u, [], rfl, h3, rfl⟩)
        obtain ⟨g3, g4, g6⟩ := resOne_sound hR rb u2 l us' r2 q2 (fun i hi => hbk i (List.mem_append_right _ hi)) h2 h4
        refine ⟨fun O' hO hl => ⟨u, us', blocks m r1, blocks m r2, rfl, by simp [blocks], g1 O' hO fun q hq => hl q (by simp [hq]), g3 O' hO fun q hq => hl q (by simp [hq])⟩, fun q hq => ?_, fun q hq => ?_⟩
        · rcases List.mem_append.1 hq with hq | hq
          · exact g2 q hq
          · exact g4 q hq
        · rcases List.mem_append.1 hq with hq | hq
          · exact g5 q hq
          · exact g6 q hq
      · cases h
  | .agg ra, v, ss, us, ids, ls, hbk, h, hs => by
    cases ss with
    | nil => simp [resOne] at h
    | cons x l =>
      cases l with
      | cons y l => cases x <;> simp [resOne] at h
      | nil =>
        cases x <;> simp only [resOne] at h <;> (try (cases h; done))
        rename_i k l
        simp only [STup] at hs
        obtain ⟨u, us', rfl, h1, h2⟩ := hs
        subst h2
        simp only [SRel] at h1
        obtain ⟨a', us2, rfl, rfl, h3⟩ := h1
        obtain ⟨g1, g2⟩ := resOne_sound hR ra v l us2 ids ls hbk h (SRels_tup h3)
        exact ⟨fun O' hO hl => ⟨us2, rfl, g1 O' hO hl⟩, g2⟩
  | .tup _, v, ss, us, ids, ls, hbk, h, hs => by
    cases ss <;> simp [resOne] at h
  | .nil, v, ss, us, ids, ls, hbk, h, hs => by
    cases ss with
    | nil =>
      simp only [resOne, Option.some.injEq, Prod.mk.injEq] at h
      obtain ⟨_, rfl, rfl⟩ := h
      simp only [STup] at hs
      subst hs
      exact ⟨fun O' hO hl => ⟨rfl, rfl⟩, by simp, by simp⟩
    | cons x l => simp [resOne] at h
  | .back i ty e ra, v, ss, us, ids, ls, hbk, h, hs => by
    simp only [resOne] at h
    split at h
    · rename_i q hq
      split at h
      · rename_i ty' e' l' hn
        split at h
        · rename_i hty
          split at h
          · rename_i w' hc
            split at h
            · rename_i v2 r s h1
              simp only [Option.some.injEq, Prod.mk.injEq] at h
              obtain ⟨rfl, rfl, rfl⟩ := h
              obtain ⟨hke, hl⟩ := cast?_some hc
              cases hke
              dsimp only at hl; subst hl
              rename_i e0 l0
              obtain ⟨g1, g2, g3⟩ := resOne_sound hR ra v2 ss us r s (fun j hj => hbk j (List.mem_cons_of_mem _ hj)) h1 hs
              obtain ⟨u, hu2, hsl⟩ := hbk i List.mem_cons_self
              rw [hq] at hsl
              simp only [SRel] at hsl
              have h3 := hsl.2.2 _ _ _ (by rw [hR.nodes]; exact hn)
              obtain ⟨xs, h4, h5⟩ := row_loc hR hn
              rw [← hty] at h4
              refine ⟨fun O' hO hl => ⟨u, xs, blocks m r, hu2, by simp only [blocks, List.flatMap_cons]; rw [h3, blks_own h4], by rw [h3]; exact h4, h5.imp fun c x hc => hc.keep (Keep.less hO), g1 O' hO hl⟩, fun q' hq' => ?_, g3⟩
              rcases List.mem_cons.1 hq' with rfl | hq'
              · exact ⟨_, hn⟩
              · exact g2 q' hq'
            · cases h
          · cases h
        · cases h
      · cases h
    · cases h
  | .dback i ty e ts ra, v, ss, us, ids, ls, hbk, h, hs => by
    simp only [resOne] at h
    split at h
    · rename_i q hq
      split at h
      · rename_i ty' e' ts' l' hn
        split at h
        · rename_i hty
          split at h
          · rename_i hts
            split at h
            · rename_i w' hc
              split at h
              · rename_i v2 r s h1
                simp only [Option.some.injEq, Prod.mk.injEq] at h
                obtain ⟨rfl, rfl, rfl⟩ := h
                obtain ⟨hke, hl⟩ := cast?_some hc
                cases hke
                dsimp only at hl; subst hl; subst hty; subst hts
                obtain ⟨g1, g2, g3⟩ := resOne_sound hR ra v2 ss us r s (fun j hj => hbk j (List.mem_cons_of_mem _ hj)) h1 hs
                obtain ⟨u, hu2, hsl⟩ := hbk i List.mem_cons_self
                rw [hq] at hsl
                simp only [SRel] at hsl
                have h3 := hsl.2.1
                refine ⟨fun O' hO hl => ⟨u, m.loc q, blocks m r, hu2, by simp [blocks], h3, (hR.deep hn).flat_any, g1 O' hO hl⟩, fun q' hq' => ?_, g3⟩
                rcases List.mem_cons.1 hq' with rfl | hq'
                · exact ⟨_, hn⟩
                · exact g2 q' hq'
              · cases h
            · cases h
          · cases h
        · cases h
      · cases h
    · cases h
end
end Go.Fm
