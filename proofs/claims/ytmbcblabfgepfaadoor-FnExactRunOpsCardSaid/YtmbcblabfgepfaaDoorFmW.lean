/- The functional machine: places told and laid again. -/
import Derived.Test.YtmbcblabfgepfaaDoorFmRa
set_option autoImplicit true
set_option linter.unusedVariables false
set_option linter.unusedSimpArgs false
set_option linter.unusedSectionVars false
namespace Go.Fm
variable [Strict]

def toL : (l : List LM) → LT l → List (Sigma LM.T)
  | [], _ => []
  | [m], v => [⟨m, v⟩]
  | m :: m' :: l, v => ⟨m, v.1⟩ :: toL (m' :: l) v.2
theorem toL_map : ∀ (l : List LM) (v : LT l), (toL l v).map (·.1) = l
  | [], _ => rfl
  | [m], v => rfl
  | m :: m' :: l, v => by simp only [toL, List.map_cons]; rw [toL_map]
theorem layAll_eq : ∀ (l : List LM) (v : LT l) (s : St), layAll s l v = (toL l v).foldl (fun s x => lay1 s x.1 x.2) s
  | [], _, _ => rfl
  | [m], v, _ => rfl
  | m :: m' :: l, v, s => by simp only [layAll, toL, List.foldl_cons]; rw [layAll_eq]
theorem toldL_mem {st : St} : ∀ {l : List LM} {v : LT l}, toldL st l = some v → ∀ x ∈ toL l v, told1 st x.1 = some x.2
  | [], v, h, x, hx => by simp [toL] at hx
  | [m], v, h, x, hx => by
    simp only [toL, List.mem_singleton] at hx; subst hx
    simpa only [toldL] using h
  | m :: m' :: l, v, h, x, hx => by
    simp only [toldL] at h
    cases h1 : told1 st m with
    | none => simp [h1] at h
    | some p =>
      cases h2 : toldL st (m' :: l) with
      | none => simp [h1, h2] at h
      | some q =>
        simp [h1, h2] at h; subst h
        simp only [toL, List.mem_cons] at hx
        rcases hx with rfl | hx
        · exact h1
        · exact toldL_mem h2 x hx
theorem apartB_nodup : ∀ {l : List Nat}, apartB l = true → l.Nodup
  | [], _ => List.nodup_nil
  | a :: l, h => by
    simp only [apartB, Bool.and_eq_true, Bool.not_eq_true', List.contains_eq_mem] at h
    exact List.nodup_cons.2 ⟨by simpa using h.1, apartB_nodup h.2⟩

def slotX (x : Sigma LM.T) : Slot := match x with
  | ⟨.val t k, v⟩ => .val k v | ⟨.own t ty e, v⟩ => .root t | ⟨.var t k, v⟩ => .box t [] | ⟨.mp t kk kv, v⟩ => .mref t | ⟨.sub t t0, v⟩ => .sub t0 v.1 v.2 | ⟨.deep t ty e ts, v⟩ => .droot t | ⟨.arr t ty e ts, v⟩ => .delem t e 0 [] | ⟨.vat t k cs, v⟩ => .box t []
def nodeX (x : Sigma LM.T) : Option Node := match x with
  | ⟨.val t k, v⟩ => none | ⟨.own t ty e, v⟩ => some (.row ty e v) | ⟨.var t k, v⟩ => some (.var k (.val k v)) | ⟨.mp t kk kv, v⟩ => some (.mp kk kv v) | ⟨.sub t t0, v⟩ => none | ⟨.deep t ty e ts, v⟩ => some (.deep ty e ts v) | ⟨.arr t ty e ts, v⟩ => some (.deep ty e ts v) | ⟨.vat t k cs, v⟩ => some (.var k (contV k cs v))
theorem lay1_slots (s : St) (x : Sigma LM.T) (t : Nat) : (lay1 s x.1 x.2).slots t = if t = x.1.slot then slotX x else s.slots t := by
  obtain ⟨m, v⟩ := x
  by_cases h : t = m.slot
  · rw [if_pos h]; subst h; cases m <;> simp [lay1, LM.slot, slotX, upd_same]
  · rw [if_neg h]; cases m <;> (simp only [LM.slot] at h; simp [lay1, upd_other _ _ h])
theorem lay1_nodes (s : St) (x : Sigma LM.T) (t : Nat) : (lay1 s x.1 x.2).nodes t = if t = x.1.slot ∧ (nodeX x).isSome then nodeX x else s.nodes t := by
  obtain ⟨m, v⟩ := x
  by_cases h : t = m.slot ∧ (nodeX ⟨m, v⟩).isSome = true
  · rw [if_pos h]; obtain ⟨rfl, h2⟩ := h; cases m <;> simp [nodeX] at h2 <;> simp [lay1, LM.slot, nodeX, upd_same]
  · rw [if_neg h]
    cases m with
    | val t' k => rfl
    | own t' ty e => have h2 : t ≠ t' := fun e => h ⟨e, rfl⟩; simp [lay1, upd_other _ _ h2]
    | var t' k => have h2 : t ≠ t' := fun e => h ⟨e, rfl⟩; simp [lay1, upd_other _ _ h2]
    | mp t' kk kv => have h2 : t ≠ t' := fun e => h ⟨e, rfl⟩; simp [lay1, upd_other _ _ h2]
    | deep t' ty e ts => have h2 : t ≠ t' := fun e => h ⟨e, rfl⟩; simp [lay1, upd_other _ _ h2]
    | arr t' ty e ts => have h2 : t ≠ t' := fun e => h ⟨e, rfl⟩; simp [lay1, upd_other _ _ h2]
    | vat t' k cs => have h2 : t ≠ t' := fun e => h ⟨e, rfl⟩; simp [lay1, upd_other _ _ h2]
    | sub t' t0 => rfl
theorem lay1_used (s : St) (x : Sigma LM.T) (t : Nat) : (lay1 s x.1 x.2).used t = if t = x.1.slot ∧ (nodeX x).isSome then true else s.used t := by
  obtain ⟨m, v⟩ := x
  by_cases h : t = m.slot ∧ (nodeX ⟨m, v⟩).isSome = true
  · rw [if_pos h]; obtain ⟨rfl, h2⟩ := h; cases m <;> simp [nodeX] at h2 <;> simp [lay1, LM.slot, nodeX, upd_same]
  · rw [if_neg h]
    cases m with
    | val t' k => rfl
    | own t' ty e => have h2 : t ≠ t' := fun e => h ⟨e, rfl⟩; simp [lay1, upd_other _ _ h2]
    | var t' k => have h2 : t ≠ t' := fun e => h ⟨e, rfl⟩; simp [lay1, upd_other _ _ h2]
    | mp t' kk kv => have h2 : t ≠ t' := fun e => h ⟨e, rfl⟩; simp [lay1, upd_other _ _ h2]
    | deep t' ty e ts => have h2 : t ≠ t' := fun e => h ⟨e, rfl⟩; simp [lay1, upd_other _ _ h2]
    | arr t' ty e ts => have h2 : t ≠ t' := fun e => h ⟨e, rfl⟩; simp [lay1, upd_other _ _ h2]
    | vat t' k cs => have h2 : t ≠ t' := fun e => h ⟨e, rfl⟩; simp [lay1, upd_other _ _ h2]
    | sub t' t0 => rfl
theorem fold_sound : ∀ (xs : List (Sigma LM.T)) (s : St), (xs.map (·.1.slot)).Nodup →
    (∀ t, (∃ x ∈ xs, x.1.slot = t ∧ (xs.foldl (fun s x => lay1 s x.1 x.2) s).slots t = slotX x) ∨ ((∀ x ∈ xs, x.1.slot ≠ t) ∧ (xs.foldl (fun s x => lay1 s x.1 x.2) s).slots t = s.slots t)) ∧
    (∀ t, (∃ x ∈ xs, x.1.slot = t ∧ (nodeX x).isSome ∧ (xs.foldl (fun s x => lay1 s x.1 x.2) s).nodes t = nodeX x ∧ (xs.foldl (fun s x => lay1 s x.1 x.2) s).used t = true) ∨
      ((∀ x ∈ xs, x.1.slot = t → nodeX x = none) ∧ (xs.foldl (fun s x => lay1 s x.1 x.2) s).nodes t = s.nodes t ∧ (xs.foldl (fun s x => lay1 s x.1 x.2) s).used t = s.used t))
  | [], s, _ => ⟨fun t => .inr ⟨by simp, rfl⟩, fun t => .inr ⟨by simp, rfl, rfl⟩⟩
  | x :: xs, s, hnd => by
    simp only [List.map_cons, List.nodup_cons, List.mem_map, not_exists, not_and] at hnd
    obtain ⟨h1, h2⟩ := fold_sound xs (lay1 s x.1 x.2) hnd.2
    simp only [List.foldl_cons]
    constructor
    · intro t
      rcases h1 t with ⟨y, hy, h3, h4⟩ | ⟨h3, h4⟩
      · exact .inl ⟨y, by simp [hy], h3, h4⟩
      · rw [lay1_slots] at h4
        by_cases ht : t = x.1.slot
        · rw [if_pos ht] at h4; exact .inl ⟨x, by simp, ht.symm, h4⟩
        · rw [if_neg ht] at h4
          refine .inr ⟨fun y hy => ?_, h4⟩
          rcases List.mem_cons.1 hy with rfl | hy
          · exact fun e => ht e.symm
          · exact h3 y hy
    · intro t
      rcases h2 t with ⟨y, hy, h3, h4, h5, h6⟩ | ⟨h3, h4, h5⟩
      · exact .inl ⟨y, by simp [hy], h3, h4, h5, h6⟩
      · rw [lay1_nodes] at h4
        rw [lay1_used] at h5
        by_cases ht : t = x.1.slot ∧ (nodeX x).isSome = true
        · rw [if_pos ht] at h4 h5; exact .inl ⟨x, by simp, ht.1.symm, ht.2, h4, h5⟩
        · rw [if_neg ht] at h4 h5
          refine .inr ⟨fun y hy hyt => ?_, h4, h5⟩
          rcases List.mem_cons.1 hy with rfl | hy
          · cases hn : nodeX y with
            | none => rfl
            | some z => exact absurd ⟨hyt.symm, by rw [hn]; rfl⟩ ht
          · exact h3 y hy hyt

section
variable {P : Program} {cx : Ctx} {st st' : St} {a : Act} {m m' : Mem} {w0 : World} {O0 : OX} {n : Nat}

/-- where a row that is none lies -/
def dflt : LM → Value
  | .deep _ _ _ _ => mkLoc (.slice none 0 0) []
  | _ => .slice none 0 0
theorem dflt_blk {lm : LM} {b : Nat} : ¬ Blk (dflt lm) b := by
  cases lm <;> try (intro h; simp [dflt, Blk, blkOf] at h; done)
  intro h
  rcases (Blk_mk (by simp)).1 h with h | ⟨us, hus, _⟩
  · simp [blkOf] at h
  · cases hus
/-- a place's values, told and laid again -/
theorem dec_sound {l : List LM} {v : LT l} (hR : Rel st a m w0 O0 n) (h : dec l st = some v) : ∃ m', m'.w = m.w ∧ Rel (enc l v) a m' w0 O0 n := by
  unfold dec at h
  cases hc : (apartB (l.filterMap (nodeOf st)) && ((l.flatMap (lent st)).all fun q => !((l.filterMap (nodeOf st)).contains q)) && apartB (l.map LM.slot) && l.all (subB l)) with
  | false => rw [hc] at h; cases h
  | true =>
  rw [hc, cond_true] at h
  simp only [Bool.and_eq_true, List.all_eq_true, Bool.not_eq_true', List.contains_eq_mem, decide_eq_false_iff_not] at hc
  obtain ⟨⟨⟨hids, hlent⟩, hslots⟩, hsubs⟩ := hc
  have hids := apartB_nodup hids
  have hslots := apartB_nodup hslots
  have htold := toldL_mem h
  have hmap := toL_map l v
  have hxs : ((toL l v).map (·.1.slot)).Nodup := by
    have : (toL l v).map (·.1.slot) = ((toL l v).map (·.1)).map LM.slot := by rw [List.map_map]; rfl
    rw [this, hmap]; exact hslots
  obtain ⟨hS, hN⟩ := fold_sound (toL l v) St.empty hxs
  have henc : enc l v = (toL l v).foldl (fun s x => lay1 s x.1 x.2) St.empty := layAll_eq l v St.empty
  rw [← henc] at hS hN
  have hmem : ∀ x ∈ toL l v, x.1 ∈ l := fun x hx => by rw [← hmap]; exact List.mem_map.2 ⟨x, hx, rfl⟩
  have huniq : ∀ x ∈ toL l v, ∀ y ∈ toL l v, x.1.slot = y.1.slot → x = y := by
    intro x hx y hy hxy
    have key : ∀ (xs : List (Sigma LM.T)), (xs.map (·.1.slot)).Nodup → x ∈ xs → y ∈ xs → x = y := by
      intro xs
      induction xs with
      | nil => intro _ h _; cases h
      | cons z xs ih =>
        intro hnd h1 h2
        simp only [List.map_cons, List.nodup_cons, List.mem_map, not_exists, not_and] at hnd
        rcases List.mem_cons.1 h1 with e1 | h1' <;> rcases List.mem_cons.1 h2 with e2 | h2'
        · rw [e1, e2]
        · exact absurd (by rw [← hxy, e1]) (hnd.1 y h2')
        · exact absurd (by rw [hxy, e2]) (hnd.1 x h1')
        · exact ih hnd.2 h1' h2'
    exact key _ hxs hx hy
  -- which node a new node was
  let wasOf : Nat → Value := fun t => match l.find? fun lm => lm.slot == t with | some lm => (match nodeOf st lm with | some q => m.loc q | none => dflt lm) | none => .slice none 0 0
  have hwas : ∀ x ∈ toL l v, wasOf x.1.slot = match nodeOf st x.1 with | some q => m.loc q | none => dflt x.1 := by
    intro x hx
    have hl := hmem x hx
    have : l.find? (fun lm => lm.slot == x.1.slot) = some x.1 := by
      have key : ∀ (l : List LM), (l.map LM.slot).Nodup → x.1 ∈ l → l.find? (fun lm => lm.slot == x.1.slot) = some x.1 := by
        intro l
        induction l with
        | nil => intro _ h; cases h
        | cons z l ih =>
          intro hnd h1
          simp only [List.map_cons, List.nodup_cons, List.mem_map, not_exists, not_and] at hnd
          rw [List.find?_cons]
          rcases List.mem_cons.1 h1 with h1 | h1
          · rw [← h1]; simp
          · have : (z.slot == x.1.slot) = false := by
              simp only [beq_eq_false_iff_ne]
              exact fun e => hnd.1 x.1 h1 e.symm
            rw [this]; exact ih hnd.2 h1
      exact key l hslots hl
    simp only [wasOf, this]
  let m' : Mem := ⟨m.w, (enc l v).nodes, (enc l v).used, wasOf, m.X⟩
  have hloc : ∀ x ∈ toL l v, m'.loc x.1.slot = match nodeOf st x.1 with | some q => m.loc q | none => dflt x.1 := fun x hx => hwas x hx
  have hin : ∀ q x, st.nodes q = some x → m.nodes q = some x := fun q x h => by rw [hR.nodes]; exact h
  -- nodes named by a place live
  have halive : ∀ x ∈ toL l v, ∀ q, nodeOf st x.1 = some q → ∃ z, st.nodes q = some z := by
    intro x hx q hq
    have h1 := htold x hx
    obtain ⟨lm, val⟩ := x
    cases lm with
    | val t k => simp [nodeOf] at hq
    | own t ty e =>
      simp only [nodeOf] at hq
      simp only [told1] at h1
      split at hq
      · rename_i q' he
        cases hq
        rw [he] at h1
        simp only at h1
        split at h1
        · rename_i ty' e' l' hn; exact ⟨_, hn⟩
        · cases h1
      · cases hq
    | var t k =>
      simp only [nodeOf] at hq
      simp only [told1] at h1
      split at hq
      · rename_i b path he
        cases hq
        rw [he] at h1
        cases path with
        | nil =>
          simp only at h1
          split at h1
          · rename_i k' c hn; exact ⟨_, hn⟩
          · cases h1
        | cons f p => simp at h1
      · cases hq
    | mp t kk kv =>
      simp only [nodeOf] at hq
      simp only [told1] at h1
      split at hq
      · rename_i q' he
        cases hq
        rw [he] at h1
        simp only at h1
        split at h1
        · rename_i kk' kv' l' hn; exact ⟨_, hn⟩
        · cases h1
      · cases hq
    | sub t t0 => simp [nodeOf] at hq
    | vat t k cs =>
      simp only [nodeOf] at hq
      simp only [told1] at h1
      split at hq
      · rename_i b path he
        cases hq
        rw [he] at h1
        cases path with
        | nil =>
          simp only at h1
          split at h1
          · rename_i k' c hn; exact ⟨_, hn⟩
          · cases h1
        | cons f p => simp at h1
      · cases hq
    | arr t ty e ts =>
      simp only [nodeOf] at hq
      simp only [told1] at h1
      split at hq
      · rename_i q' e0 i0 p0 he
        cases hq
        rw [he] at h1
        cases p0 with
        | nil =>
          simp only at h1
          split at h1
          · split at h1
            · split at h1
              · rename_i ty' e' ts' l' hn; exact ⟨_, hn⟩
              · cases h1
            · cases h1
          · cases h1
        | cons f p => simp at h1
      · cases hq
    | deep t ty e ts =>
      simp only [nodeOf] at hq
      simp only [told1] at h1
      split at hq
      · rename_i q' he
        cases hq
        rw [he] at h1
        simp only at h1
        split at h1
        · rename_i ty' e' ts' l' hn; exact ⟨_, hn⟩
        · cases h1
      · cases hq
  have hO : ∀ b, m'.own b → m.own b ∧ ∃ x ∈ toL l v, ∃ q, nodeOf st x.1 = some q ∧ Blk (m.loc q) b := by
    rintro b ⟨t, nd, h1, h2⟩
    rcases hN t with ⟨x, hx, h3, h4, h5, h6⟩ | ⟨h3, h4, h5⟩
    · subst h3
      rw [hloc x hx] at h2
      cases hq : nodeOf st x.1 with
      | none => rw [hq] at h2; exact (dflt_blk h2).elim
      | some q =>
        rw [hq] at h2
        obtain ⟨z, hz⟩ := halive x hx q hq
        exact ⟨⟨q, z, hin q z hz, h2⟩, x, hx, q, hq, h2⟩
    · have : (enc l v).nodes t = none := h4
      have h1' : (enc l v).nodes t = some nd := h1
      rw [this] at h1'; cases h1'
  have hO1 : ∀ b, m'.O b → m.O b := fun b hb => hb.imp (fun h => (hO b h).1) id
  have hkeep : ∀ {k : Kind} {cs : List Value} {u : k.T}, Cells m.w m.O k cs u → Cells m.w m'.O k cs u := fun hc => hc.keep (Keep.less hO1)
  -- rows that a value leans on are not among the nodes
  have hapart : ∀ x ∈ toL l v, ∀ q ∈ lent st x.1, ∀ z, st.nodes q = some z → ∀ b, Blk (m.loc q) b → ¬ m'.O b := by
    rintro x hx q hq z hz b hb (hb' | hb')
    rotate_left
    · exact hR.ok.apart ⟨q, z, hin q z hz, hb⟩ hb'
    obtain ⟨_, y, hy, q', h1, h2⟩ := hO b hb'
    obtain ⟨z', hz'⟩ := halive y hy q' h1
    have : q = q' := hR.ok.inj q q' z z' b (hin q z hz) (hin q' z' hz') hb h2
    subst this
    exact hlent q (List.mem_flatMap.2 ⟨x.1, hmem x hx, hq⟩) (List.mem_filterMap.2 ⟨y.1, hmem y hy, h1⟩)
  refine ⟨m', rfl, ?_⟩
  -- rows that variables hold
  have hat : ∀ lm ∈ l, ∃ y ∈ toL l v, y.1 = lm := fun lm hlm => by
    rw [← hmap] at hlm
    obtain ⟨y, hy, hye⟩ := List.mem_map.1 hlm
    exact ⟨y, hy, hye⟩
  have hus : ∀ y ∈ toL l v, (nodeX y).isSome = true → m'.used y.1.slot = true := fun y hy hs => by
    rcases hN y.1.slot with ⟨z, hz, g1, g2, g3, g4⟩ | ⟨g1, _, _⟩
    · exact g4
    · rw [g1 y hy rfl] at hs; cases hs
  have hrow : ∀ (s ty : Nat) (e : Kind), LM.own s ty e ∈ l → ∀ (q : Nat) (u : Value), st.slots s = .root q → SRel m (.root q) u → SRel m' (.root s) u := by
    intro s ty e hlm q u hs hu
    obtain ⟨⟨lm, w⟩, hy, rfl⟩ := hat _ hlm
    have h1y := htold _ hy
    have hly := hloc _ hy
    have h5 := hus _ hy (by simp [nodeX])
    simp only [told1, hs] at h1y
    simp only [LM.slot, nodeOf, hs] at hly h5
    simp only [SRel] at hu ⊢
    split at h1y
    · rename_i ty' e' l' hn
      exact ⟨h5, hu.2.1, fun _ _ _ _ => by rw [hly]; exact hu.2.2 ty' e' l' (hin q _ hn)⟩
    · cases h1y
  have hrow0 : ∀ (s ty : Nat) (e : Kind), LM.own s ty e ∈ l → ∀ (u : Value), st.slots s = .nils → SRel m .nils u → SRel m' (.root s) u := by
    intro s ty e hlm u hs hu
    obtain ⟨⟨lm, w⟩, hy, rfl⟩ := hat _ hlm
    have hly := hloc _ hy
    have h5 := hus _ hy (by simp [nodeX])
    simp only [LM.slot, nodeOf, hs] at hly h5
    simp only [SRel] at hu ⊢
    exact ⟨h5, ⟨none, 0, 0, hu⟩, fun _ _ _ _ => by rw [hly]; exact hu⟩
  have hdeep : ∀ (s ty : Nat) (e : Kind) (ts : List Nat), LM.deep s ty e ts ∈ l → ∀ (q : Nat) (u : Value), st.slots s = .droot q → SRel m (.droot q) u → SRel m' (.droot s) u := by
    intro s ty e ts hlm q u hs hu
    obtain ⟨⟨lm, w⟩, hy, rfl⟩ := hat _ hlm
    have hly := hloc _ hy
    have h5 := hus _ hy (by simp [nodeX])
    simp only [LM.slot, nodeOf, hs] at hly h5
    simp only [SRel] at hu ⊢
    exact ⟨h5, by rw [hly]; exact hu.2.1, hu.2.2⟩
  have hdeep0 : ∀ (s ty : Nat) (e : Kind) (ts : List Nat), LM.deep s ty e ts ∈ l → ∀ (u : Value), st.slots s = .nils → SRel m .nils u → SRel m' (.droot s) u := by
    intro s ty e ts hlm u hs hu
    obtain ⟨⟨lm, w⟩, hy, rfl⟩ := hat _ hlm
    have hly := hloc _ hy
    have h5 := hus _ hy (by simp [nodeX])
    simp only [LM.slot, nodeOf, hs] at hly h5
    simp only [SRel] at hu ⊢
    exact ⟨h5, by rw [hly, hu]; exact hdr_mk _ _, none, 0, 0, hu⟩
  let okc : VF → Prop := fun c => match c with
    | .r s => ∃ ty e, LM.own s ty e ∈ l
    | .d s => ∃ ty e ts, LM.deep s ty e ts ∈ l
    | .v _ => True
  have one : ∀ (c : VF) (cs : List VF) (a : Kind) (x : Slot) (xs : List Slot) (u : Value) (w : VT (c :: cs)), okc c → (∀ k, c = .v k → k = a) → (∀ q ∈ rootsV (c :: cs) (x :: xs), ∀ z, st.nodes q = some z → ∀ b, Blk (m.loc q) b → ¬ m'.O b) → toldV st (c :: cs) (x :: xs) = some w → SRel m x u → Form a u → fitsD a x = true →
      ∃ x' w', layV (c :: cs) w = x' :: layV cs w' ∧ SRel m' x' u ∧ fitsD a x' = true ∧ toldV st cs xs = some w' ∧ ∀ q ∈ rootsV cs xs, q ∈ rootsV (c :: cs) (x :: xs) := by
    intro c cs a x xs u w hok hk hq ht hs hf hfd
    cases c with
    | v k =>
      have hk := hk k rfl
      subst hk
      simp only [toldV] at ht
      split at ht
      · rename_i v' hv
        split at ht
        · rename_i vs hvs
          cases ht
          refine ⟨.val k v', vs, rfl, ?_, by simp [fitsD, fits], hvs, fun q hq => by simp only [rootsV, List.mem_append]; exact .inr hq⟩
          simp only [SRel]
          refine asVal_sound (m := m) (nodes := st.nodes) hin hR.ok.node hO1 8 x k v' u hv hs ?_
          intro q hq' b' hb'
          obtain ⟨z, hz⟩ := asVal_alive 8 x k v' hv q hq'
          exact hq q (by simp only [rootsV, List.mem_append]; exact .inl hq') z hz b' hb'
        · cases ht
      · cases ht
    | r s =>
      obtain ⟨ty, e, hlm⟩ := hok
      cases x <;> simp only [toldV] at ht <;> (try (cases ht; done))
      · split at ht
        · rename_i hs2
          exact ⟨.root s, w, rfl, hrow0 s ty e hlm u hs2 hs, by simpa [fitsD, fits] using hfd, ht, fun q hq => by simpa only [rootsV] using hq⟩
        · cases ht
      · split at ht
        · rename_i q' hs2
          split at ht
          · rename_i hqq
            subst hqq
            exact ⟨.root s, w, rfl, hrow s ty e hlm _ u hs2 hs, by simpa [fitsD, fits] using hfd, ht, fun q hq => by simpa only [rootsV] using hq⟩
          · cases ht
        · cases ht
    | d s =>
      obtain ⟨ty, e, ts, hlm⟩ := hok
      cases x <;> simp only [toldV] at ht <;> (try (cases ht; done))
      · split at ht
        · rename_i hs2
          exact ⟨.droot s, w, rfl, hdeep0 s ty e ts hlm u hs2 hs, by simpa [fitsD, fits] using hfd, ht, fun q hq => by simpa only [rootsV] using hq⟩
        · cases ht
      · split at ht
        · rename_i q' hs2
          split at ht
          · rename_i hqq
            subst hqq
            exact ⟨.droot s, w, rfl, hdeep s ty e ts hlm _ u hs2 hs, by simpa [fitsD, fits] using hfd, ht, fun q hq => by simpa only [rootsV] using hq⟩
          · cases ht
        · cases ht
  have keyV : ∀ (cs : List VF) (a : Kind) (xs : List Slot) (us : List Value) (w : VT cs), vkB a cs = true → (∀ c ∈ cs, okc c) → (∀ q ∈ rootsV cs xs, ∀ z, st.nodes q = some z → ∀ b, Blk (m.loc q) b → ¬ m'.O b) → toldV st cs xs = some w → SRels m a xs us → SRels m' a (layV cs w) us := by
    intro cs
    induction cs with
    | nil => intro a xs us w hk; cases a <;> simp [vkB] at hk
    | cons c cs ih =>
      intro a xs us w hk hok hq ht hs
      cases xs with
      | nil => cases c <;> simp [toldV] at ht
      | cons x xs =>
        simp only [SRels] at hs
        obtain ⟨u, us', rfl, h1, h2⟩ := hs
        rcases h2 with ⟨a1, b1, rfl, e1, e2, e3, e4⟩ | ⟨e1, e2, rfl, rfl, e3, e4⟩
        · have hk1 : ∀ k, c = .v k → k = a1 := by
            rintro k rfl
            simp only [vkB, Bool.and_eq_true, decide_eq_true_eq] at hk
            exact hk.1
          have hk2 : vkB b1 cs = true := by
            cases c <;> simp only [vkB, Bool.and_eq_true] at hk
            · exact hk.2
            · exact hk
            · exact hk
          obtain ⟨x', w', f1, f2, f3, f4, f5⟩ := one c cs a1 x xs u w (hok c (by simp)) hk1 hq ht h1 e2 e3
          have h3 := ih b1 xs us' w' hk2 (fun c hc => hok c (by simp [hc])) (fun q hq' => hq q (f5 q hq')) f4 e4
          rw [f1]
          simp only [SRels]
          refine ⟨u, us', rfl, f2, .inl ⟨a1, b1, rfl, fun h0 => ?_, e2, f3, h3⟩⟩
          rw [h0] at h3
          simp only [SRels] at h3
          cases cs with
          | nil => cases b1 <;> simp [vkB] at hk2
          | cons c2 cs2 => cases c2 <;> simp [layV] at h0
        · have hcs : cs = [] := by
            cases cs with
            | nil => rfl
            | cons c2 cs2 => cases a <;> simp [vkB, notPair] at hk e1
          subst hcs
          have hk1 : ∀ k, c = .v k → k = a := by
            rintro k rfl
            cases a <;> simp [vkB, notPair] at hk e1 <;> exact hk
          obtain ⟨x', w', f1, f2, f3, f4, f5⟩ := one c [] a x [] u w (hok c (by simp)) hk1 hq ht h1 e3 e4
          rw [f1]
          simp only [layV, SRels]
          exact ⟨u, [], rfl, f2, .inr ⟨e1, e2, by simp, by simp, e3, f3⟩⟩
  have hnode : ∀ t nd, (enc l v).nodes t = some nd → ∃ x ∈ toL l v, x.1.slot = t ∧ nodeX x = some nd ∧ (enc l v).used t = true := by
    intro t nd hnd
    rcases hN t with ⟨x, hx, h3, h4, h5, h6⟩ | ⟨h3, h4, h5⟩
    · exact ⟨x, hx, h3, by rw [← h5]; exact hnd, h6⟩
    · rw [h4] at hnd; cases hnd
  refine ⟨rfl, rfl, ⟨?_, ?_, ?_, hR.ok.frame, fun b hb => hR.ok.base b (hO b hb).1, hR.ok.keeps, hR.ok.far⟩, ?_, hR.defers, hR.size, hR.fixed⟩
  · -- the nodes
    intro t nd hnd
    obtain ⟨x, hx, h3, h4, h5⟩ := hnode t nd hnd
    subst h3
    have h1 := htold x hx
    have hl := hloc x hx
    have hlx := hapart x hx
    obtain ⟨lm, val⟩ := x
    cases lm with
    | val t k => simp [nodeX] at h4
    | own t ty e =>
      simp only [nodeX, Option.some.injEq] at h4
      subst h4
      simp only [told1] at h1
      simp only [LM.slot] at hl
      split at h1
      · rename_i he
        cases h1
        simp only [nodeOf, he] at hl
        refine ⟨[], ?_, rfl⟩
        show m.w.ownsRow 0 ty (width e) (m'.loc t) 0 []
        rw [hl]; exact World.ownsRow_nil _ _ _ _
      · rename_i q he
        split at h1
        · rename_i ty' e' l' hn
          split at h1
          · rename_i hty
            subst hty
            obtain ⟨hke, hv⟩ := cast?_some h1
            cases hke
            dsimp only at hv; subst hv
            simp only [nodeOf, he] at hl
            obtain ⟨xs, g1, g2⟩ := row_loc hR hn
            refine ⟨xs, ?_, g2.imp fun c x hc => hkeep hc⟩
            show m.w.ownsRow 0 ty (width e) (m'.loc t) _ xs
            rw [hl]; exact g1
          · cases h1
        · cases h1
      · cases h1
    | var t k =>
      simp only [nodeX, Option.some.injEq] at h4
      subst h4
      simp only [told1] at h1
      simp only [LM.slot] at hl
      split at h1
      · rename_i b he
        split at h1
        · rename_i k' c hn
          split at h1
          · rename_i hk
            subst hk
            simp only [nodeOf, he] at hl
            obtain ⟨g, blk, ty, u, g1, g2, g3, g4, g5, g6⟩ := hR.ok.node b _ (hin b _ hn)
            have hreg : Reg m.w m'.O k' u val := by
              refine asVal_sound (m := m) (nodes := st.nodes) hin hR.ok.node hO1 8 c k' val u h1 g6 ?_
              intro q hq b' hb'
              obtain ⟨z, hz⟩ := asVal_alive 8 c k' val h1 q hq
              exact hlx q (by simp only [lent, he, hn]; exact hq) z hz b' hb'
            refine ⟨g, blk, ty, u, ?_, g2, g3, g4, by simp [fitsD, fits], ?_⟩
            · show m'.loc t = _
              rw [hl]; exact g1
            · simp only [SRel]; exact hreg
          · cases h1
        · cases h1
      · cases h1
    | mp t kk kv =>
      simp only [nodeX, Option.some.injEq] at h4
      subst h4
      simp only [told1] at h1
      simp only [LM.slot] at hl
      split at h1
      · rename_i q he
        split at h1
        · rename_i kk' kv' l' hn
          obtain ⟨hke, hv⟩ := cast?_some h1
          cases hke
          dsimp only at hv; subst hv
          simp only [nodeOf, he] at hl
          obtain ⟨g1, g2, b, g3, g4⟩ := hR.ok.node q _ (hin q _ hn)
          exact ⟨g1, g2, b, by show m'.loc t = _; rw [hl]; exact g3, g4⟩
        · cases h1
      · cases h1
    | sub t t0 => simp [nodeX] at h4
    | vat t k cs =>
      simp only [nodeX, Option.some.injEq] at h4
      subst h4
      simp only [told1] at h1
      simp only [LM.slot] at hl
      split at h1
      · rename_i b he
        split at h1
        · rename_i k' c hn
          split at h1
          · rename_i hk
            subst hk
            split at h1
            · rename_i fl hfl
              simp only [nodeOf, he] at hl
              obtain ⟨g, blk, ty, u, g1, g2, g3, g4, g5, g6⟩ := hR.ok.node b _ (hin b _ hn)
              have hsb := hsubs (.vat t k' cs) (hmem _ hx)
              simp only [subB, Bool.and_eq_true, List.all_eq_true] at hsb
              obtain ⟨hvk, hsb⟩ := hsb
              have hok : ∀ c ∈ cs, okc c := fun c hc => by
                have := hsb c hc
                cases c with
                | v k => trivial
                | r s =>
                  simp only [List.any_eq_true] at this
                  obtain ⟨lm, hlm, hb⟩ := this
                  cases lm with
                  | own t' ty2 e2 => rw [Nat.eq_of_beq_eq_true hb] at hlm; exact ⟨ty2, e2, hlm⟩
                  | _ => simp at hb
                | d s =>
                  simp only [List.any_eq_true] at this
                  obtain ⟨lm, hlm, hb⟩ := this
                  cases lm with
                  | deep t' ty2 e2 ts2 => rw [Nat.eq_of_beq_eq_true hb] at hlm; exact ⟨ty2, e2, ts2, hlm⟩
                  | _ => simp at hb
              have hrV : ∀ q ∈ rootsV cs fl, ∀ z, st.nodes q = some z → ∀ b, Blk (m.loc q) b → ¬ m'.O b := fun q hq z hz b' hb' => hlx q (by simp only [lent, he, hn, hfl]; exact hq) z hz b' hb'
              have hz : fitsD k' (contV k' cs val) = true ∧ SRel m' (contV k' cs val) u := by
                cases k' with
                | struct a2 =>
                  cases c <;> simp only [fieldsV] at hfl <;> (try (cases hfl; done))
                  rename_i k2 l2
                  split at hfl
                  · rename_i hk2
                    cases hfl
                    subst hk2
                    simp only [SRel] at g6
                    obtain ⟨a3, us, e1, rfl, h9⟩ := g6
                    cases e1
                    refine ⟨by simp [contV, fitsD, fits], ?_⟩
                    simp only [contV, SRel]
                    exact ⟨a2, us, rfl, rfl, keyV cs a2 _ us val hvk hok hrV h1 h9⟩
                  · cases hfl
                | slice e2 =>
                  have hfl' : fl = [c] := by simpa [fieldsV] using hfl.symm
                  subst hfl'
                  have h9 := keyV cs (.slice e2) [c] [u] val hvk hok hrV h1 (SRels_single trivial (by simp) g6 g4 g5)
                  cases hly : layV cs val with
                  | nil => rw [hly] at h9; simp [SRels] at h9
                  | cons x' l' =>
                    rw [hly] at h9
                    simp only [SRels] at h9
                    obtain ⟨u', us', e1, f1, f2⟩ := h9
                    cases e1
                    simp only [contV, hly, List.headD_cons]
                    rcases f2 with ⟨_, _, e3, _⟩ | ⟨_, _, _, _, _, f3⟩
                    · cases e3
                    · exact ⟨f3, f1⟩
                | _ => simp [vkV] at hvk
              exact ⟨g, blk, ty, u, by show m'.loc t = _; rw [hl]; exact g1, g2, g3, g4, hz.1, hz.2⟩
            · cases h1
          · cases h1
        · cases h1
      · cases h1
    | arr t ty e ts =>
      simp only [nodeX, Option.some.injEq] at h4
      subst h4
      simp only [told1] at h1
      simp only [LM.slot] at hl
      show DeepR m.w m'.O ty e ts (m'.loc t) val (fun _ _ => False)
      split at h1
      · rename_i q e0 i0 he
        split at h1
        · split at h1
          · split at h1
            · rename_i ty' e' ts' l' hn
              split at h1
              · rename_i hty
                split at h1
                · rename_i hts
                  subst hty; subst hts
                  split at h1
                  · rename_i l2 hc
                    cases h1
                    obtain ⟨hke, hv⟩ := cast?_some hc
                    cases hke
                    dsimp only at hv; subst hv
                    simp only [nodeOf, he] at hl
                    rw [hl]
                    exact (hR.deep hn).flat_any
                  · cases h1
                · cases h1
              · cases h1
            · cases h1
          · cases h1
        · cases h1
      · cases h1
    | deep t ty e ts =>
      simp only [nodeX, Option.some.injEq] at h4
      subst h4
      simp only [told1] at h1
      simp only [LM.slot] at hl
      show DeepR m.w m'.O ty e ts (m'.loc t) val (fun _ _ => False)
      split at h1
      · rename_i q he
        split at h1
        · rename_i ty' e' ts' l' hn
          split at h1
          · rename_i hty
            split at h1
            · rename_i hts
              subst hty; subst hts
              obtain ⟨hke, hv⟩ := cast?_some h1
              cases hke
              dsimp only at hv; subst hv
              simp only [nodeOf, he] at hl
              rw [hl]
              exact (hR.deep hn).flat_any
            · cases h1
          · cases h1
        · cases h1
      · rename_i he
        simp only [nodeOf, he] at hl
        cases hB : deepB e ts with
        | false => rw [hB, cond_false] at h1; cases h1
        | true =>
          rw [hB, cond_true] at h1
          cases h1
          rw [hl]
          exact ⟨.slice none 0 0, [], [], rfl, hB, rfl, World.ownsRow_nil _ _ _ _, rfl, fun _ _ _ _ _ _ h => by simp at h, ⟨fun _ _ _ _ _ h => by simp at h, fun _ _ _ _ _ _ _ _ _ h => by simp at h⟩⟩
      · cases h1
  · intro t nd hnd
    obtain ⟨x, hx, h3, h4, h5⟩ := hnode t nd hnd
    exact h5
  · intro t t' nd nd' b h1 h2 h3 h4
    obtain ⟨x, hx, g1, g2, _⟩ := hnode t nd h1
    obtain ⟨y, hy, g3, g4, _⟩ := hnode t' nd' h2
    subst g1; subst g3
    rw [hloc x hx] at h3
    rw [hloc y hy] at h4
    cases hq : nodeOf st x.1 with
    | none => rw [hq] at h3; exact (dflt_blk h3).elim
    | some q =>
      cases hq' : nodeOf st y.1 with
      | none => rw [hq'] at h4; exact (dflt_blk h4).elim
      | some q' =>
        rw [hq] at h3; rw [hq'] at h4
        obtain ⟨z, hz⟩ := halive x hx q hq
        obtain ⟨z', hz'⟩ := halive y hy q' hq'
        have : q = q' := hR.ok.inj q q' z z' b (hin q z hz) (hin q' z' hz') h3 h4
        subst this
        -- two places name one node
        have key : ∀ (l : List LM), (l.filterMap (nodeOf st)).Nodup → ∀ u ∈ l, ∀ u' ∈ l, nodeOf st u = some q → nodeOf st u' = some q → u = u' := by
          intro l
          induction l with
          | nil => intro _ u h; cases h
          | cons z l ih =>
            intro hnd u hu u' hu' e1 e2
            rw [List.filterMap_cons] at hnd
            cases hz : nodeOf st z with
            | none =>
              rw [hz] at hnd
              rcases List.mem_cons.1 hu with rfl | hu
              · rw [hz] at e1; cases e1
              · rcases List.mem_cons.1 hu' with rfl | hu'
                · rw [hz] at e2; cases e2
                · exact ih hnd u hu u' hu' e1 e2
            | some p =>
              rw [hz] at hnd
              obtain ⟨hn1, hn2⟩ := List.nodup_cons.1 hnd
              rcases List.mem_cons.1 hu with f1 | g1 <;> rcases List.mem_cons.1 hu' with f2 | g2
              · rw [f1, f2]
              · rw [f1, hz] at e1; cases e1; exact absurd (List.mem_filterMap.2 ⟨u', g2, e2⟩) hn1
              · rw [f2, hz] at e2; cases e2; exact absurd (List.mem_filterMap.2 ⟨u, g1, e1⟩) hn1
              · exact ih hn2 u g1 u' g2 e1 e2
        rw [key l hids x.1 (hmem x hx) y.1 (hmem y hy) hq hq']
  · -- the slots
    intro t
    rcases hS t with ⟨x, hx, h3, h4⟩ | ⟨h3, h4⟩
    · subst h3
      rw [h4]
      have h1 := htold x hx
      have hl := hloc x hx
      have hlx := hapart x hx
      have hused : (nodeX x).isSome = true → (enc l v).used x.1.slot = true := by
        intro hs
        rcases hN x.1.slot with ⟨y, hy, g1, g2, g3, g4⟩ | ⟨g1, _, _⟩
        · exact g4
        · rw [g1 x hx rfl] at hs; cases hs
      obtain ⟨lm, val⟩ := x
      cases lm with
      | val t k =>
        simp only [slotX, SRel]
        simp only [told1] at h1
        refine asVal_sound (m := m) (nodes := st.nodes) hin hR.ok.node hO1 8 _ k val _ h1 (hR.slot t) ?_
        intro q hq b' hb'
        obtain ⟨z, hz⟩ := asVal_alive 8 _ k val h1 q hq
        exact hlx q (by simp only [lent]; exact hq) z hz b' hb'
      | own t ty e =>
        have hsl := hR.slot t
        simp only [told1] at h1
        simp only [LM.slot] at hl hused ⊢
        have hu := hused (by simp [nodeX])
        simp only [slotX, SRel]
        split at h1
        · rename_i he
          rw [he] at hsl; simp only [SRel] at hsl
          simp only [nodeOf, he] at hl
          exact ⟨hu, ⟨none, 0, 0, hsl⟩, fun _ _ _ _ => by rw [hl]; exact hsl⟩
        · rename_i q he
          rw [he] at hsl; simp only [SRel] at hsl
          split at h1
          · rename_i ty' e' l' hn
            simp only [nodeOf, he] at hl
            exact ⟨hu, hsl.2.1, fun _ _ _ _ => by rw [hl]; exact hsl.2.2 ty' e' l' (hin q _ hn)⟩
          · cases h1
        · cases h1
      | var t k =>
        have hsl := hR.slot t
        simp only [told1] at h1
        simp only [LM.slot] at hl hused ⊢
        have hu := hused (by simp [nodeX])
        simp only [slotX, SRel]
        split at h1
        · rename_i b he
          rw [he] at hsl; simp only [SRel] at hsl
          split at h1
          · rename_i k' c hn
            simp only [nodeOf, he] at hl
            obtain ⟨g, o', k2, g1, g2, g3⟩ := hsl.2 k' c (hin b _ hn)
            simp [pathOff] at g2
            refine ⟨hu, fun k3 c3 _ => ⟨g, 0, k3, by rw [hl]; exact g1, by simp [pathOff], by rw [g3, g2.1]⟩⟩
          · cases h1
        · cases h1
      | vat t k cs =>
        have hsl := hR.slot t
        simp only [told1] at h1
        simp only [LM.slot] at hl hused ⊢
        have hu := hused (by simp [nodeX])
        simp only [slotX, SRel]
        split at h1
        · rename_i b he
          rw [he] at hsl; simp only [SRel] at hsl
          split at h1
          · rename_i k' c hn
            simp only [nodeOf, he] at hl
            obtain ⟨g, o', k2, g1, g2, g3⟩ := hsl.2 k' c (hin b _ hn)
            simp [pathOff] at g2
            refine ⟨hu, fun k3 c3 _ => ⟨g, 0, k3, by rw [hl]; exact g1, by simp [pathOff], by rw [g3, g2.1]⟩⟩
          · cases h1
        · cases h1
      | mp t kk kv =>
        have hsl := hR.slot t
        simp only [told1] at h1
        simp only [LM.slot] at hl hused ⊢
        have hu := hused (by simp [nodeX])
        simp only [slotX, SRel]
        split at h1
        · rename_i q he
          rw [he] at hsl; simp only [SRel] at hsl
          split at h1
          · rename_i kk' kv' l' hn
            simp only [nodeOf, he] at hl
            exact ⟨hu, hsl.2.1, fun _ _ _ _ => by rw [hl]; exact hsl.2.2 kk' kv' l' (hin q _ hn)⟩
          · cases h1
        · cases h1
      | arr t ty e ts =>
        have hsl := hR.slot t
        simp only [told1] at h1
        simp only [LM.slot] at hl hused ⊢
        have hu := hused (by simp [nodeX])
        simp only [slotX, SRel]
        split at h1
        · rename_i q e0 i0 he
          split at h1
          · rename_i hee
            split at h1
            · rename_i hi0
              subst hee; subst hi0
              rw [he] at hsl; simp only [SRel] at hsl
              simp only [nodeOf, he] at hl
              exact ⟨hu, by rw [hl]; exact hsl.2⟩
            · cases h1
          · cases h1
        · cases h1
      | deep t ty e ts =>
        have hsl := hR.slot t
        simp only [told1] at h1
        simp only [LM.slot] at hl hused ⊢
        have hu := hused (by simp [nodeX])
        simp only [slotX, SRel]
        split at h1
        · rename_i q he
          rw [he] at hsl; simp only [SRel] at hsl
          simp only [nodeOf, he] at hl
          exact ⟨hu, by rw [hl]; exact hsl.2.1, hsl.2.2⟩
        · rename_i he
          rw [he] at hsl; simp only [SRel] at hsl
          simp only [nodeOf, he] at hl
          exact ⟨hu, by rw [hl, hsl]; exact hdr_mk _ _, none, 0, 0, hsl⟩
        · cases h1
      | sub t t0 =>
        have hsl := hR.slot t
        have hsl0 := hR.slot t0
        simp only [told1] at h1
        simp only [LM.slot]
        split at h1
        · rename_i r lo hi r' he he0
          split at h1
          · rename_i hrr
            subst hrr
            rw [he] at hsl; rw [he0] at hsl0
            split at h1
            · rename_i ty e l' hn
              cases h1
              -- the row that it is a part of
              have hsb := hsubs (.sub t t0) (hmem _ hx)
              simp only [subB, List.any_eq_true] at hsb
              obtain ⟨lm, hlm, hb⟩ := hsb
              cases lm with
              | own t' ty2 e2 =>
                simp only at hb
                have ht' : t' = t0 := Nat.eq_of_beq_eq_true hb
                subst ht'
                have hex : ∃ y ∈ toL l v, y.1 = .own t' ty2 e2 := by
                  rw [← hmap] at hlm
                  obtain ⟨y, hy, hye⟩ := List.mem_map.1 hlm
                  exact ⟨y, hy, hye⟩
                obtain ⟨⟨lm2, val2⟩, hy, hye⟩ := hex
                dsimp only at hye
                subst hye
                have h1y := htold _ hy
                have hly := hloc _ hy
                simp only [told1, he0, hn] at h1y
                simp only [LM.slot, nodeOf, he0] at hly
                have hNy : (enc l v).nodes t' = nodeX ⟨.own t' ty2 e2, val2⟩ ∧ (enc l v).used t' = true := by
                  rcases hN t' with ⟨z, hz, g1, g2, g3, g4⟩ | ⟨g1, _, _⟩
                  · have := huniq z hz _ hy g1
                    subst this
                    exact ⟨g3, g4⟩
                  · have := g1 _ hy rfl
                    cases this
                simp only [slotX, SRel] at hsl ⊢
                refine ⟨hNy.2, fun ty3 e3 l3 hn3 => ?_⟩
                have hn4 : (enc l v).nodes t' = some (.row ty3 e3 l3) := hn3
                rw [hNy.1] at hn4
                simp only [nodeX, Option.some.injEq] at hn4
                split at h1y
                · rename_i hty
                  subst hty
                  obtain ⟨hke, hv⟩ := cast?_some h1y
                  cases hke
                  dsimp only at hv
                  subst hv
                  cases hn4
                  rw [hly]
                  exact hsl.2 _ _ _ (hin r _ hn)
                · cases h1y
              | _ => simp at hb
            · cases h1
          · cases h1
        · cases h1
    · rw [h4]
      exact SRel.dead _ _
/-! ### rows in variables -/
theorem findV_mem {q : Nat} : ∀ {cs : List VF} {xs : List Slot} {x : Slot}, findV q cs xs = some x → x ∈ xs ∧ q ∈ cs.filterMap VF.name
  | [], xs, x, h => by simp [findV] at h
  | c :: cs, [], x, h => by cases c <;> simp [findV] at h
  | .v k :: cs, y :: xs, x, h => by
    simp only [findV] at h
    obtain ⟨h1, h2⟩ := findV_mem h
    exact ⟨List.mem_cons_of_mem _ h1, by simpa [VF.name] using h2⟩
  | .r s :: cs, y :: xs, x, h => by
    simp only [findV] at h
    cases hb : Nat.beq q s with
    | true =>
      rw [hb, cond_true] at h; cases h
      exact ⟨List.mem_cons_self .., by simp [VF.name, Nat.eq_of_beq_eq_true hb]⟩
    | false =>
      rw [hb, cond_false] at h
      obtain ⟨h1, h2⟩ := findV_mem h
      exact ⟨List.mem_cons_of_mem _ h1, by rw [List.filterMap_cons]; simp only [VF.name]; exact List.mem_cons_of_mem _ h2⟩
  | .d s :: cs, y :: xs, x, h => by
    simp only [findV] at h
    cases hb : Nat.beq q s with
    | true =>
      rw [hb, cond_true] at h; cases h
      exact ⟨List.mem_cons_self .., by simp [VF.name, Nat.eq_of_beq_eq_true hb]⟩
    | false =>
      rw [hb, cond_false] at h
      obtain ⟨h1, h2⟩ := findV_mem h
      exact ⟨List.mem_cons_of_mem _ h1, by rw [List.filterMap_cons]; simp only [VF.name]; exact List.mem_cons_of_mem _ h2⟩
theorem STup_mem {m : Mem} : ∀ {xs : List Slot} {us : List Value} {x : Slot}, STup m xs us → x ∈ xs → ∃ u, SRel m x u
  | y :: xs, us, x, h, hx => by
    simp only [STup] at h
    obtain ⟨u, us', rfl, h1, h2⟩ := h
    rcases List.mem_cons.1 hx with rfl | hx
    · exact ⟨u, h1⟩
    · exact STup_mem h2 hx
theorem virt1_some (hR : Rel st a m w0 O0 n) {q : Nat} : ∀ {l : List LM} {x : Slot}, virt1 st q l = some x → q ∈ vnames l ∧ ∃ u, SRel m x u
  | [], x, h => by cases h
  | lm :: l, x, h => by
    cases lm with
    | vat t k cs =>
      simp only [virt1] at h
      split at h
      · rename_i y hy
        cases h
        split at hy
        · rename_i b hb
          split at hy
          · rename_i k' c hn
            split at hy
            · rename_i hk
              subst hk
              split at hy
              · rename_i xs hxs
                obtain ⟨h1, h2⟩ := findV_mem hy
                refine ⟨by simp only [vnames]; exact List.mem_append_left _ h2, ?_⟩
                obtain ⟨g, blk, ty, u, g1, g2, g3, g4, g5, g6⟩ := hR.ok.node b _ (show m.nodes b = _ by rw [hR.nodes]; exact hn)
                cases k' <;> simp only [fieldsV] at hxs <;> (try (cases hxs; done))
                · cases c <;> simp only at hxs <;> (try (cases hxs; done))
                  split at hxs
                  · rename_i hk2
                    cases hxs
                    subst hk2
                    simp only [SRel] at g6
                    obtain ⟨a3, us, e1, rfl, h9⟩ := g6
                    exact STup_mem (SRels_tup h9) h1
                  · cases hxs
                · cases hxs
                  rw [List.mem_singleton.1 h1]
                  exact ⟨u, g6⟩
              · cases hy
            · cases hy
          · cases hy
        · cases hy
      · obtain ⟨h1, h2⟩ := virt1_some hR h
        exact ⟨by simp only [vnames]; exact List.mem_append_right _ h1, h2⟩
    | _ =>
      simp only [virt1] at h
      obtain ⟨h1, h2⟩ := virt1_some hR h
      exact ⟨by simp only [vnames]; exact h1, h2⟩
theorem le_sum : ∀ {l : List Nat} {q : Nat}, q ∈ l → q ≤ l.foldr (· + ·) 0
  | x :: l, q, h => by
    simp only [List.foldr_cons]
    rcases List.mem_cons.1 h with rfl | h
    · omega
    · have := le_sum h; omega
theorem decV_sound {l : List LM} {v : LT l} (hR : Rel st a m w0 O0 n) (h : decV l st = some v) : ∃ m', m'.w = m.w ∧ Rel (encV l v) a m' w0 O0 n := by
  unfold decV at h
  unfold encV
  cases hv : hasV l with
  | false => rw [hv, cond_false] at h; rw [cond_false]; exact dec_sound hR h
  | true =>
  rw [hv, cond_true] at h
  rw [cond_true]
  have hex : ∀ q, ∃ u, SRel m ((virt st l).slots q) u ∧ (virt1 st q l = none → u = a.tmps.getD q undef) := fun q => by
    cases hq : virt1 st q l with
    | none =>
      refine ⟨_, ?_, fun _ => rfl⟩
      simp only [virt, hq]
      exact hR.slot q
    | some x =>
      obtain ⟨_, u, hu⟩ := virt1_some hR hq
      exact ⟨u, by simp only [virt, hq]; exact hu, fun h => by cases h⟩
  let f : Nat → Value := fun q => Classical.choose (hex q)
  have hf1 : ∀ q, SRel m ((virt st l).slots q) (f q) := fun q => (Classical.choose_spec (hex q)).1
  have hf2 : ∀ q, q ∉ vnames l → f q = a.tmps.getD q undef := fun q hq => (Classical.choose_spec (hex q)).2 (by
    cases h9 : virt1 st q l with
    | none => rfl
    | some x => exact absurd (virt1_some hR h9).1 hq)
  let M : Nat := n + (vnames l).foldr (· + ·) 0 + 1
  have hM : ∀ q ∈ vnames l, q < M := fun q hq => by have := le_sum hq; omega
  have hout : ∀ q, M ≤ q → a.tmps.getD q undef = undef := fun q hq => by
    have : a.tmps.size = n := hR.size
    simp only [Array.getD_eq_getD_getElem?]
    rw [Array.getElem?_eq_none (by omega)]; rfl
  let b : Act := { tmps := ((List.range M).map f).toArray, defers := a.defers }
  have hb : ∀ q, b.tmps.getD q undef = if q < M then f q else undef := fun q => by
    simp only [b, Array.getD_eq_getD_getElem?, List.getElem?_toArray, List.getElem?_map]
    by_cases hq : q < M
    · rw [List.getElem?_range hq, if_pos hq]; rfl
    · rw [List.getElem?_eq_none (by simpa using hq), if_neg hq]; rfl
  have hR2 : Rel (virt st l) b m w0 ⟨O0.o, O0.X, fun _ => none⟩ M := by
    refine ⟨hR.nodes, hR.used, ⟨hR.ok.node, hR.ok.used, hR.ok.inj, hR.ok.frame, hR.ok.base, hR.ok.keeps, hR.ok.far⟩, fun q => ?_, hR.defers, by simp [b], fun t v hv => by cases hv⟩
    rw [hb]
    by_cases hq : q < M
    · rw [if_pos hq]; exact hf1 q
    · rw [if_neg hq]
      have h1 := hf1 q
      rw [hf2 q (fun hm => hq (hM q hm)), hout q (by omega)] at h1
      exact h1
  obtain ⟨m', hw, hR3⟩ := dec_sound hR2 h
  refine ⟨m', hw, hR3.nodes, hR3.used, ⟨hR3.ok.node, hR3.ok.used, hR3.ok.inj, hR3.ok.frame, hR3.ok.base, hR3.ok.keeps, hR3.ok.far⟩, fun q => ?_, hR.defers, hR.size, hR.fixed⟩
  show SRel m' (cond ((vnames l).contains q) .dead ((enc l v).slots q)) _
  cases hc : (vnames l).contains q with
  | true => exact SRel.dead _ _
  | false =>
    rw [cond_false]
    have hq : q ∉ vnames l := by simpa using hc
    have h1 := hR3.slot q
    rw [hb] at h1
    by_cases hqM : q < M
    · rw [if_pos hqM, hf2 q hq] at h1; exact h1
    · rw [if_neg hqM] at h1; rw [hout q (by omega)]; exact h1
end
end Go.Fm
