/- The functional machine: rows whose elements have rows of their own. -/
import Derived.Test.YtmbcblabfgepfaaDoorFmF
set_option autoImplicit true
set_option linter.unusedVariables false
set_option linter.unusedSimpArgs false
set_option linter.unusedSectionVars false
namespace Go.Fm
variable [Strict]
section
variable {w : World} {O : Nat → Prop}
theorem Cells.flat_any' {w' : World} {O' : Nat → Prop} : ∀ {k : Kind} {cs : List Value} {v : k.T}, flat k = true → Cells w O k cs v → Cells w' O' k cs v
  | .unit, cs, v, _, h => h
  | .int ik, cs, v, _, h => h
  | .bool, cs, v, _, h => h
  | .str, cs, v, _, h => h
  | .pair a b, cs, v, hf, h => by
    obtain ⟨c1, c2, rfl, h1, h2⟩ := h
    simp only [flat, Bool.and_eq_true] at hf
    exact ⟨c1, c2, rfl, flat_any' hf.1 h1, flat_any' hf.2 h2⟩
  | .struct a, cs, v, hf, h => Cells.flat_any' (k := a) hf h
  | .slice e, cs, v, hf, h => by simp [flat] at hf
  | .arr n e, cs, v, hf, h => ⟨h.1, h.2.imp fun c x hc => Cells.flat_any' (k := e) hf hc⟩
  | .clo g c, cs, v, hf, h => by simp [flat] at hf
  | .ref a, cs, v, hf, h => by simp [flat] at hf
  | .mpk _ _, cs, v, hf, h => by simp [flat] at hf
  | .mbx _ _, cs, v, hf, h => by simp [flat] at hf
  | .recB _ _ _, cs, v, hf, h => by simp [flat] at hf
  | .err, cs, v, hf, h => by simp [flat] at hf
  | .fnk, cs, v, hf, h => by simp [flat] at hf
/-- a field of a deep row's struct: a row or not -/
theorem DS.leaf {a : Kind} {cs : List Value} {v : a.T} {us : List Value} (hl : leafOK a = true) (h : DS w O a cs v us) :
    (∃ e A n c, ∃ hk : a = .slice e, cs = [.slice A n c] ∧ us = [.slice A n c] ∧ partsP a v = [⟨e, (show (Kind.slice e).T from hk ▸ v)⟩] ∧ nsl a = 1 ∧ flat e = true ∧ (aggB e = true ∨ width e = 1) ∧ width e ≠ 0) ∨
    ((∀ e, a ≠ .slice e) ∧ us = [] ∧ Cells w O a cs v ∧ nsl a = 0 ∧ partsP a v = [] ∧ flat a = true ∧ (aggB a = true ∨ width a = 1) ∧ notPair a ∧ a ≠ .unit) := by
  have hq : ∀ k : Kind, (aggB k || Nat.beq (width k) 1) = true → aggB k = true ∨ width k = 1 := fun k h => by simpa using h
  cases a with
  | slice e =>
    simp only [leafOK, Bool.and_eq_true] at hl
    obtain ⟨A, n, c, e1, e2⟩ := h; subst e1; subst e2
    exact .inl ⟨_, A, n, c, rfl, rfl, rfl, rfl, rfl, hl.1.1, hq _ hl.1.2, by have := hl.2; simp at this; omega⟩
  | pair a b => simp [leafOK] at hl
  | unit => simp [leafOK] at hl
  | _ => 
    simp only [leafOK, Bool.and_eq_true] at hl
    exact .inr ⟨by simp, h.1, h.2, rfl, rfl, hl.1, hq _ hl.2, trivial, by simp⟩
theorem DS.length : ∀ {k : Kind} {cs : List Value} {v : k.T} {us : List Value}, DS w O k cs v us → cs.length = width k
  | .pair a b, cs, v, us, h => by
    obtain ⟨c1, c2, u1, u2, rfl, h2, h3, h4⟩ := h
    rw [List.length_append, DS.length h3, DS.length h4, width]
  | .slice _, cs, v, us, h => by obtain ⟨A, n, c, e1, e2⟩ := h; subst e1; rfl
  | .unit, _, _, _, h => Cells.length (k := .unit) h.2
  | .int _, _, _, _, h => Cells.length (k := .int _) h.2
  | .bool, _, _, _, h => Cells.length (k := .bool) h.2
  | .str, _, _, _, h => Cells.length (k := .str) h.2
  | .struct _, _, _, _, h => Cells.length (k := .struct _) h.2
  | .arr _ _, _, _, _, h => Cells.length (k := .arr _ _) h.2
  | .clo _ _, _, _, _, h => Cells.length (k := .clo _ _) h.2
  | .ref _, _, _, _, h => Cells.length (k := .ref _) h.2
  | .mpk _ _, _, _, _, h => Cells.length (k := .mpk _ _) h.2
  | .mbx _ _, _, _, _, h => Cells.length (k := .mbx _ _) h.2
  | .recB _ _ _, _, _, _, h => Cells.length (k := .recB _ _ _) h.2
  | .err, _, _, _, h => Cells.length (k := .err) h.2
  | .fnk, _, _, _, h => Cells.length (k := .fnk) h.2
theorem DS.one : ∀ {k : Kind} {cs : List Value} {v : k.T} {us : List Value}, DS w O k cs v us → ∀ u ∈ cs, u.oneCell' = true
  | .pair a b, cs, v, us, h => by
    obtain ⟨c1, c2, u1, u2, rfl, h2, h3, h4⟩ := h
    intro u hu
    rcases List.mem_append.1 hu with hu | hu
    · exact DS.one h3 u hu
    · exact DS.one h4 u hu
  | .slice _, cs, v, us, h => by obtain ⟨A, n, c, e1, e2⟩ := h; subst e1; simp [Value.oneCell']
  | .unit, _, _, _, h => Cells.one (k := .unit) h.2
  | .int _, _, _, _, h => Cells.one (k := .int _) h.2
  | .bool, _, _, _, h => Cells.one (k := .bool) h.2
  | .str, _, _, _, h => Cells.one (k := .str) h.2
  | .struct _, _, _, _, h => Cells.one (k := .struct _) h.2
  | .arr _ _, _, _, _, h => Cells.one (k := .arr _ _) h.2
  | .clo _ _, _, _, _, h => Cells.one (k := .clo _ _) h.2
  | .ref _, _, _, _, h => Cells.one (k := .ref _) h.2
  | .mpk _ _, _, _, _, h => Cells.one (k := .mpk _ _) h.2
  | .mbx _ _, _, _, _, h => Cells.one (k := .mbx _ _) h.2
  | .recB _ _ _, _, _, _, h => Cells.one (k := .recB _ _ _) h.2
  | .err, _, _, _, h => Cells.one (k := .err) h.2
  | .fnk, _, _, _, h => Cells.one (k := .fnk) h.2
theorem DE.length {e : Kind} {cs : List Value} {p : e.T × List Value} (h : DE w O e cs p) : cs.length = width e := by
  cases e with
  | struct a => exact DS.length (k := a) h
  | _ => exact h.elim
theorem DE.len (e : Kind) : ∀ c x, DE w O e c x → c.length = width e := fun _ _ h => h.length
/-- what lies at a field -/
theorem DS.field : ∀ {a : Kind} {cs : List Value} {v : a.T} {us : List Value} {f o : Nat} {k : Kind}, dOK a = true → DS w O a cs v us → fieldOff a f = some (o, k) →
    (∃ e A n c vs, k = .slice e ∧ (cs.drop o).take 1 = [.slice A n c] ∧ us[rankP a f]? = some (.slice A n c) ∧ projP a f v = some ⟨.slice e, vs⟩ ∧ (partsP a v)[rankP a f]? = some ⟨e, vs⟩) ∨
    ((∀ e, k ≠ .slice e) ∧ ∃ vk, projP a f v = some ⟨k, vk⟩ ∧ Cells w O k ((cs.drop o).take (width k)) vk)
  | .pair a b, cs, v, us, 0, o, k, hd, h, hf => by
    simp [fieldOff] at hf; obtain ⟨rfl, rfl⟩ := hf
    simp only [dOK, Bool.and_eq_true] at hd
    obtain ⟨c1, c2, u1, u2, rfl, rfl, h3, h4⟩ := h
    have hl := DS.length h3
    rcases DS.leaf hd.1 h3 with ⟨e, A, n, c, rfl, rfl, rfl, e3, _⟩ | ⟨e1, rfl, e3, _⟩
    · refine .inl ⟨e, A, n, c, v.1, rfl, rfl, rfl, rfl, ?_⟩
      simp only [partsP, rankP]; rfl
    · refine .inr ⟨e1, v.1, rfl, ?_⟩
      rw [List.drop_zero, List.take_append, hl, Nat.sub_self, List.take_zero, List.append_nil, List.take_of_length_le (by omega)]
      exact e3
  | .pair a b, cs, v, us, f + 1, o, k, hd, h, hf => by
    simp only [fieldOff] at hf
    simp only [dOK, Bool.and_eq_true] at hd
    cases hb : fieldOff b f with
    | none => simp [hb] at hf
    | some x =>
      obtain ⟨o', k'⟩ := x
      simp [hb] at hf; obtain ⟨rfl, rfl⟩ := hf
      obtain ⟨c1, c2, u1, u2, rfl, rfl, h3, h4⟩ := h
      have hl := DS.length h3
      have hu : u1.length = nsl a ∧ (partsP a v.1).length = nsl a := by
        rcases DS.leaf hd.1 h3 with ⟨e, A, n, c, rfl, rfl, rfl, e3, e4, _⟩ | ⟨e1, rfl, e3, e4, e5, _⟩
        · exact ⟨rfl, rfl⟩
        · rw [e4, e5]; exact ⟨rfl, rfl⟩
      have hdr : (c1 ++ c2).drop (width a + o') = c2.drop o' := by
        rw [List.drop_append, List.drop_eq_nil_of_le (by omega), List.nil_append, hl, show width a + o' - width a = o' by omega]
      rw [hdr]
      rcases DS.field hd.2 h4 hb with ⟨e, A, n, c, vs, e1, e2, e3, e4, e5⟩ | ⟨e1, vk, e2, e3⟩
      · refine .inl ⟨e, A, n, c, vs, e1, e2, ?_, e4, ?_⟩
        · simp only [rankP, Nat.add_eq]
          rw [List.getElem?_append_right (by omega), show nsl a + rankP b f - u1.length = rankP b f by omega]; exact e3
        · simp only [rankP, partsP, Nat.add_eq]
          rw [List.getElem?_append_right (by omega), show nsl a + rankP b f - (partsP a v.1).length = rankP b f by omega]; exact e5
      · exact .inr ⟨e1, vk, e2, e3⟩
  | .unit, cs, v, us, f, o, k, hd, h, hf => by simp [fieldOff] at hf
  | .slice e, cs, v, us, 0, o, k, hd, h, hf => by
    simp [fieldOff] at hf; obtain ⟨rfl, rfl⟩ := hf
    obtain ⟨A, n, c, e1, e2⟩ := h; subst e1; subst e2
    exact .inl ⟨e, A, n, c, v, rfl, rfl, rfl, rfl, rfl⟩
  | .int _, cs, v, us, 0, o, k, hd, h, hf | .bool, cs, v, us, 0, o, k, hd, h, hf | .str, cs, v, us, 0, o, k, hd, h, hf | .struct _, cs, v, us, 0, o, k, hd, h, hf
  | .arr _ _, cs, v, us, 0, o, k, hd, h, hf | .clo _ _, cs, v, us, 0, o, k, hd, h, hf | .ref _, cs, v, us, 0, o, k, hd, h, hf | .mpk _ _, cs, v, us, 0, o, k, hd, h, hf | .mbx _ _, cs, v, us, 0, o, k, hd, h, hf | .recB _ _ _, cs, v, us, 0, o, k, hd, h, hf | .err, cs, v, us, 0, o, k, hd, h, hf | .fnk, cs, v, us, 0, o, k, hd, h, hf => by
    simp [fieldOff] at hf; obtain ⟨rfl, rfl⟩ := hf
    have hl := h.2.length
    refine .inr ⟨by simp, v, rfl, ?_⟩
    rw [List.drop_zero, List.take_of_length_le (by omega)]
    exact h.2
  | .int _, cs, v, us, _ + 1, o, k, hd, h, hf | .bool, cs, v, us, _ + 1, o, k, hd, h, hf | .str, cs, v, us, _ + 1, o, k, hd, h, hf | .struct _, cs, v, us, _ + 1, o, k, hd, h, hf
  | .slice _, cs, v, us, _ + 1, o, k, hd, h, hf | .arr _ _, cs, v, us, _ + 1, o, k, hd, h, hf | .clo _ _, cs, v, us, _ + 1, o, k, hd, h, hf | .ref _, cs, v, us, _ + 1, o, k, hd, h, hf | .mpk _ _, cs, v, us, _ + 1, o, k, hd, h, hf | .mbx _ _, cs, v, us, _ + 1, o, k, hd, h, hf | .recB _ _ _, cs, v, us, _ + 1, o, k, hd, h, hf | .err, cs, v, us, _ + 1, o, k, hd, h, hf | .fnk, cs, v, us, _ + 1, o, k, hd, h, hf => by
    simp [fieldOff] at hf
/-- a part without memory, along a path -/
theorem DS.path {a : Kind} {cs : List Value} {v : a.T} {us : List Value} {p : List Nat} {o : Nat} {k : Kind} {y : Sigma Kind.T} (hd : dOK a = true) (h : DS w O a cs v us) (hf : pathOff (.struct a) p = some (o, k)) (hne : p ≠ []) (hp : projs p ⟨.struct a, v⟩ = some y) (hk : flat y.1 = true) :
    ∃ e : y.1 = k, Cells w O k ((cs.drop o).take (width k)) (e ▸ y.2) := by
  cases p with
  | nil => exact absurd rfl hne
  | cons f p =>
    obtain ⟨o1, k1, o2, h1, h2, rfl⟩ := pathOff_struct hf
    simp only [projs, proj] at hp
    rcases DS.field hd h h1 with ⟨e, A, n, c, vs, rfl, e2, e3, e4, e5⟩ | ⟨e1, vk, e2, e3⟩
    · rw [e4] at hp
      simp only at hp
      cases p with
      | nil => simp [projs] at hp; subst hp; simp [flat] at hk
      | cons g p => simp [projs, proj] at hp
    · rw [e2] at hp
      simp only at hp
      obtain ⟨e4, h4⟩ := projs_sound e3 h2 hp
      refine ⟨e4, ?_⟩
      rw [take_drop_add _ _ _ _ (width k1) (pathOff_le h2)]
      exact h4
/-- an element of a deep row -/
theorem deep_elem {ty : Nat} {e : Kind} {ts : List Nat} {v : Value} {l : List e.T} {sk : Nat → Nat → Prop} (h : DeepR w O ty e ts v l sk) {g n cap : Nat} (hh : hdr v = some (.slice (some ⟨g, 0, none⟩) n cap)) {i : Int} (h0 : 0 ≤ i) (h1 : i < (n : Int)) :
    ∃ cur ty' us, w.heap[g]? = some (.cells cur ty' (0, 0)) ∧ n = l.length ∧ i.toNat < l.length ∧ DE w O e ((cur.toList.drop (i.toNat * width e)).take (width e)) (rdT e l i, us) ∧ (∀ j, prt v i.toNat j = us[j]?) ∧ i.toNat * width e + width e ≤ cur.size := by
  obtain ⟨u0, xs, L, rfl, h2, h3, h4, h5, h6, h7⟩ := h
  rw [hdr_mk] at hh
  obtain rfl : u0 = _ := Option.some.inj hh
  rcases h4.2 with ⟨h8, _⟩ | ⟨g', cap', cur, h8, _, h9, h10, h11, h12, h13⟩
  · simp at h8
  · simp only [Value.slice.injEq, Option.some.injEq, Addr.mk.injEq, and_true] at h8
    obtain ⟨rfl, rfl, rfl⟩ := h8
    have hlL : l.length = L.length := by rw [h3, List.length_map]
    have hil : i.toNat < L.length := by omega
    have hg := Rows.get (DE.len e) i.toNat h5 hil
    have hr : rdT e l i = L[i.toNat].1 := by
      unfold rdT
      rw [h3, List.getD_eq_getElem?_getD, List.getElem?_map, List.getElem?_eq_getElem hil]; rfl
    have hle : i.toNat * width e + width e ≤ l.length * width e := by
      have := Nat.mul_le_mul_right (width e) (show i.toNat + 1 ≤ l.length by omega)
      rw [Nat.add_mul] at this; omega
    refine ⟨cur, ty, L[i.toNat].2, h9, rfl, by omega, ?_, fun j => ?_, ?_⟩
    · rw [hr]
      have e1 : (cur.toList.drop (i.toNat * width e)).take (width e) = (xs.drop (i.toNat * width e)).take (width e) := by
        rw [← h13, List.drop_take, List.take_take]
        congr 1; omega
      rw [e1]; exact hg
    · rw [prt_mk, List.getElem?_map, List.getElem?_eq_getElem hil]; rfl
    · have h14 : l.length * width e ≤ cap * width e := Nat.mul_le_mul_right _ h10
      rw [h12]; omega
theorem deep_ptr {ty : Nat} {e : Kind} {ts : List Nat} {v : Value} {l : List e.T} {sk : Nat → Nat → Prop} (h : DeepR w O ty e ts v l sk) (h1 : 0 < l.length) : ∃ g cap, hdr v = some (.slice (some ⟨g, 0, none⟩) l.length cap) := by
  obtain ⟨u0, xs, L, rfl, h2, h3, h4, h5, h6, h7⟩ := h
  rcases h4.2 with ⟨_, h8⟩ | ⟨g', cap', cur, h8, _⟩
  · omega
  · exact ⟨g', cap', by rw [hdr_mk, h8]⟩
theorem Rel.deep {st : St} {a : Act} {m : Mem} {w0 : World} {O0 : OX} {n : Nat} (hR : Rel st a m w0 O0 n) {q ty : Nat} {e : Kind} {ts : List Nat} {l : List e.T} (hn : st.nodes q = some (.deep ty e ts l)) : DeepR m.w m.O ty e ts (m.loc q) l (fun _ _ => False) := by
  have h : NodeRel m q (.deep ty e ts l) := hR.ok.node q _ (by rw [hR.nodes]; exact hn)
  exact h
theorem leaf_any {w' : World} {O' : Nat → Prop} {a : Kind} {cs : List Value} {v : a.T} {us : List Value} (hl : leafOK a = true) (h : DS w O a cs v us) : DS w' O' a cs v us := by
  have hc : ∀ {k : Kind} {v : k.T}, flat k = true → Cells w O k cs v → Cells w' O' k cs v := fun hf h => h.flat_any' hf
  cases a with
  | slice e => exact h
  | pair a b => simp [leafOK] at hl
  | unit => simp [leafOK] at hl
  | _ =>
    simp only [leafOK, Bool.and_eq_true] at hl
    exact ⟨h.1, hc hl.1 h.2⟩
theorem DS.flat_any {w' : World} {O' : Nat → Prop} : ∀ {k : Kind} {cs : List Value} {v : k.T} {us : List Value}, dOK k = true → DS w O k cs v us → DS w' O' k cs v us
  | .pair a b, cs, v, us, hd, h => by
    obtain ⟨c1, c2, u1, u2, h1, h2, h3, h4⟩ := h
    simp only [dOK, Bool.and_eq_true] at hd
    refine ⟨c1, c2, u1, u2, h1, h2, ?_, DS.flat_any hd.2 h4⟩
    exact leaf_any hd.1 h3
  | .slice _, cs, v, us, hd, h => h
  | .unit, _, _, _, hd, h => leaf_any (a := .unit) hd h
  | .int k, _, _, _, hd, h => leaf_any (a := .int k) hd h
  | .bool, _, _, _, hd, h => leaf_any (a := .bool) hd h
  | .str, _, _, _, hd, h => leaf_any (a := .str) hd h
  | .struct k, _, _, _, hd, h => leaf_any (a := .struct k) hd h
  | .arr n k, _, _, _, hd, h => leaf_any (a := .arr n k) hd h
  | .clo g k, _, _, _, hd, h => leaf_any (a := .clo g k) hd h
  | .ref k, _, _, _, hd, h => leaf_any (a := .ref k) hd h
  | .mpk k l, _, _, _, hd, h => leaf_any (a := .mpk k l) hd h
  | .mbx k l, _, _, _, hd, h => leaf_any (a := .mbx k l) hd h
  | .recB k l _, _, _, _, hd, h => leaf_any (a := .recB k l _) hd h
  | .err, _, _, _, hd, h => leaf_any (a := .err) hd h
  | .fnk, _, _, _, hd, h => leaf_any (a := .fnk) hd h
theorem DE.flat_any {w' : World} {O' : Nat → Prop} {e : Kind} {ts : List Nat} (hB : deepB e ts = true) {cs : List Value} {p : e.T × List Value} (h : DE w O e cs p) : DE w' O' e cs p := by
  obtain ⟨a, rfl, ha, _⟩ := deepB_struct hB
  exact DS.flat_any ha h
theorem parts_flat : ∀ {a : Kind} {v : a.T}, dOK a = true → ∀ q ∈ partsP a v, flat q.1 = true
  | .pair a b, v, hd, q, hq => by
    simp only [dOK, Bool.and_eq_true] at hd
    rcases List.mem_append.1 hq with hq | hq
    · have hd1 := hd.1
      cases a <;> simp only [partsP, List.not_mem_nil] at hq <;> simp [leafOK] at hd1
      rw [List.mem_singleton.1 hq]; exact hd1.1.1
    · exact parts_flat hd.2 q hq
  | .slice e, v, hd, q, hq => by
    simp [dOK, leafOK] at hd
    rw [List.mem_singleton.1 hq]; exact hd.1.1
  | .unit, _, _, q, hq | .int _, _, _, q, hq | .bool, _, _, q, hq | .str, _, _, q, hq | .struct _, _, _, q, hq | .arr _ _, _, _, q, hq | .clo _ _, _, _, q, hq | .ref _, _, _, q, hq | .mpk _ _, _, _, q, hq | .mbx _ _, _, _, q, hq | .recB _ _ _, _, _, q, hq | .err, _, _, q, hq | .fnk, _, _, q, hq => by cases hq
theorem PartOK.flat_any {O' : Nat → Prop} {ty : Nat} {u : Value} {q : Sigma fun e : Kind => List e.T} (hf : flat q.1 = true) (h : PartOK w O ty u q) : PartOK w O' ty u q := by
  obtain ⟨xs, h1, h2⟩ := h
  exact ⟨xs, h1, h2.imp fun c x hc => hc.flat_any' hf⟩
theorem DeepR.flat_any {O' : Nat → Prop} {ty : Nat} {e : Kind} {ts : List Nat} {v : Value} {l : List e.T} {sk : Nat → Nat → Prop} (h : DeepR w O ty e ts v l sk) : DeepR w O' ty e ts v l sk := by
  obtain ⟨u0, xs, L, h1, h2, h3, h4, h5, h6, h7⟩ := h
  refine ⟨u0, xs, L, h1, h2, h3, h4, h5.imp fun c p hp => hp.flat_any h2, ?_, h7⟩
  intro i j p u q ty' e1 e2 e3 e4 e5
  obtain ⟨a, rfl, ha, _⟩ := deepB_struct h2
  exact (h6 i j p u q ty' e1 e2 e3 e4 e5).flat_any (parts_flat ha q (List.mem_of_getElem? e3))
theorem Apart.nodup {u0 : Value} {L : List (List Value)} (h : Apart u0 L) (h0 : ∀ c, u0 ≠ .tuple c) : (blks (mkLoc u0 L)).Nodup := by
  have e : blks (mkLoc u0 L) = (blkOf u0).toList ++ L.flatMap fun us => us.filterMap blkOf := by
    simp only [blks, mkLoc, List.flatMap_cons, List.flatMap_map]
  rw [e]
  refine List.nodup_append.2 ⟨by cases blkOf u0 <;> simp, ?_, ?_⟩
  · unfold List.Nodup
    rw [List.pairwise_flatMap]
    constructor
    · intro us hus
      obtain ⟨i, hi⟩ := List.mem_iff_getElem?.1 hus
      rw [List.pairwise_filterMap, List.pairwise_iff_getElem]
      intro j j' hj hj' hlt b hb b' hb' e
      subst e
      have := (h.inn i j i j' us us us[j] us[j'] b hi (List.getElem?_eq_getElem hj) hi (List.getElem?_eq_getElem hj') hb hb').2
      omega
    · rw [List.pairwise_iff_getElem]
      intro i i' hi hi' hlt b hb b' hb' e
      subst e
      obtain ⟨u, hu, hub⟩ := List.mem_filterMap.1 hb
      obtain ⟨u', hu', hub'⟩ := List.mem_filterMap.1 hb'
      obtain ⟨j, hj⟩ := List.mem_iff_getElem?.1 hu
      obtain ⟨j', hj'⟩ := List.mem_iff_getElem?.1 hu'
      have := (h.inn i j i' j' _ _ u u' b (List.getElem?_eq_getElem hi) hj (List.getElem?_eq_getElem hi') hj' hub hub').1
      omega
  · intro b hb b' hb' e
    subst e
    obtain ⟨us, hus, hb'⟩ := List.mem_flatMap.1 hb'
    obtain ⟨u, hu, hub⟩ := List.mem_filterMap.1 hb'
    obtain ⟨i, hi⟩ := List.mem_iff_getElem?.1 hus
    obtain ⟨j, hj⟩ := List.mem_iff_getElem?.1 hu
    exact h.out i j us u b hi hj (by simpa using hb) hub
theorem DeepR.nodup {ty : Nat} {e : Kind} {ts : List Nat} {v : Value} {l : List e.T} {sk : Nat → Nat → Prop} (h : DeepR w O ty e ts v l sk) : (blks v).Nodup := by
  obtain ⟨u0, xs, L, rfl, h2, h3, h4, h5, h6, h7⟩ := h
  obtain ⟨A, c, hA⟩ := ownsRow_slice h4
  exact h7.nodup (by rw [hA]; simp)
theorem partS_ne {r : Nat} {i : Int} : ∀ {a : Kind} {f j : Nat} {v : a.T}, a ≠ .unit → partS r i a f j v ≠ []
  | .pair a b, f, j, v, _ => by cases a <;> simp [partS]
  | .slice _, f, j, v, _ => by simp [partS]
  | .unit, f, j, v, h => absurd rfl h
  | .int _, _, _, _, _ | .bool, _, _, _, _ | .str, _, _, _, _ | .struct _, _, _, _, _ | .arr _ _, _, _, _, _ | .clo _ _, _, _, _, _ | .ref _, _, _, _, _ | .mpk _ _, _, _, _, _ | .mbx _ _, _, _, _, _ | .recB _ _ _, _, _, _, _ | .err, _, _, _, _ | .fnk, _, _, _, _ => by simp [partS]
theorem dOK_unit {a : Kind} (h : dOK a = true) : a ≠ .unit := by
  intro e; subst e; simp [dOK, leafOK] at h
theorem leaf_val {m : Mem} {a : Kind} {cs : List Value} {v : a.T} (h : Cells m.w m.O a cs v) (hk : aggB a = true ∨ width a = 1) : SRel m (.val a v) (regOf a cs) ∧ (regOf a cs).cells.toList = cs ∧ Form a (regOf a cs) ∧ fitsD a (.val a v) = true := by
  obtain ⟨h1, h2⟩ := Form.of_cells h hk
  refine ⟨?_, h2, h1, by simp [fitsD, fits]⟩
  simp only [SRel]
  exact Reg.of h1 (by rw [h2]; exact h)
theorem catCells_cons (u : Value) (us : List Value) : catCells (u :: us) = u.cells.toList ++ catCells us := by simp [catCells]
theorem slice_form {e : Kind} {A : Option Addr} {n c : Nat} : Form (.slice e) (.slice A n c) := by unfold Form; rw [if_neg (by simp [aggB])]; exact ⟨rfl, rfl⟩
theorem one_leaf {m : Mem} {a : Kind} {cs us : List Value} {v : a.T} {l : List Slot} (hd : dOK a = true) (h : DS m.w m.O a cs v us) (hn : notPair a) (hs : ∀ e, a ≠ .slice e) (hl : l = [.val a v]) : ∃ regs, cs = catCells regs ∧ SRels m a l regs := by
  have hd' : leafOK a = true := by cases a <;> first | exact hn.elim | exact hd
  rcases DS.leaf hd' h with ⟨e, A, n, c, rfl, _⟩ | ⟨e1, _, e3, _, _, _, e4, _, e5⟩
  · exact absurd rfl (hs e)
  · obtain ⟨k1, k2, k3, k4⟩ := leaf_val (m := m) e3 e4
    subst hl
    refine ⟨[regOf a cs], by simp [catCells, k2], ?_⟩
    simp only [SRels]
    exact ⟨_, _, rfl, k1, .inr ⟨hn, e5, by simp, by simp, k3, k4⟩⟩
/-- an element told field by field -/
theorem partS_rel {m : Mem} {r : Nat} {i : Int} (hu : m.used r = true) (h0 : 0 ≤ i) : ∀ {a : Kind} {f j : Nat} {v : a.T} {cs us : List Value}, dOK a = true → DS m.w m.O a cs v us → (∀ jj u, us[jj]? = some u → prt (m.loc r) i.toNat (j + jj) = some u) →
    ∃ regs, cs = catCells regs ∧ SRels m a (partS r i a f j v) regs
  | .pair a b, f, j, v, cs, us, hd, h, hp => by
    simp only [dOK, Bool.and_eq_true] at hd
    obtain ⟨c1, c2, u1, u2, rfl, rfl, h3, h4⟩ := h
    rcases DS.leaf hd.1 h3 with ⟨e, A, n, c, rfl, rfl, rfl, e3, _⟩ | ⟨e1, rfl, e3, _, _, _, e4, _⟩
    · obtain ⟨regs, rfl, h5⟩ := partS_rel hu h0 (f := f + 1) (j := j + 1) hd.2 h4 (fun jj u hj => by
        have := hp (jj + 1) u (by simpa using hj)
        rw [show j + 1 + jj = j + (jj + 1) by omega]; exact this)
      refine ⟨.slice A n c :: regs, by rw [catCells_cons]; rfl, ?_⟩
      simp only [partS, SRels]
      refine ⟨_, _, rfl, ?_, .inl ⟨_, _, rfl, partS_ne (dOK_unit hd.2), slice_form, by simp [fitsD, fits], h5⟩⟩
      simp only [SRel]
      exact ⟨hu, h0, by simpa using hp 0 _ rfl, _, _, _, rfl⟩
    · obtain ⟨regs, rfl, h5⟩ := partS_rel hu h0 (f := f + 1) (j := j) hd.2 h4 (fun jj u hj => hp jj u (by simpa using hj))
      obtain ⟨k1, k2, k3, k4⟩ := leaf_val (m := m) e3 e4
      have hps : partS r i (.pair a b) f j v = .val a v.1 :: partS r i b (Nat.succ f) j v.2 := by
        cases a <;> first | exact absurd rfl (e1 _) | rfl
      rw [hps]
      refine ⟨regOf a c1 :: regs, by rw [catCells_cons, k2], ?_⟩
      simp only [SRels]
      exact ⟨_, _, rfl, k1, .inl ⟨_, _, rfl, partS_ne (dOK_unit hd.2), k3, k4, h5⟩⟩
  | .slice e, f, j, v, cs, us, hd, h, hp => by
    obtain ⟨A, n, c, e1, e2⟩ := h; subst e1; subst e2
    refine ⟨[.slice A n c], by simp [catCells, Value.cells], ?_⟩
    simp only [partS, SRels]
    refine ⟨_, _, rfl, ?_, .inr ⟨trivial, by simp, by simp, by simp, slice_form, by simp [fitsD, fits]⟩⟩
    simp only [SRel]
    exact ⟨hu, h0, by simpa using hp 0 _ rfl, _, _, _, rfl⟩
  | .unit, f, j, v, cs, us, hd, h, hp => by simp [dOK, leafOK] at hd
  | .int k, f, j, v, cs, us, hd, h, hp => one_leaf (a := .int k) hd h trivial (by simp) rfl
  | .bool, f, j, v, cs, us, hd, h, hp => one_leaf (a := .bool) hd h trivial (by simp) rfl
  | .str, f, j, v, cs, us, hd, h, hp => one_leaf (a := .str) hd h trivial (by simp) rfl
  | .struct k, f, j, v, cs, us, hd, h, hp => one_leaf (a := .struct k) hd h trivial (by simp) rfl
  | .arr n k, f, j, v, cs, us, hd, h, hp => one_leaf (a := .arr n k) hd h trivial (by simp) rfl
  | .clo g k, f, j, v, cs, us, hd, h, hp => one_leaf (a := .clo g k) hd h trivial (by simp) rfl
  | .ref k, f, j, v, cs, us, hd, h, hp => one_leaf (a := .ref k) hd h trivial (by simp) rfl
  | .mpk k l, f, j, v, cs, us, hd, h, hp => one_leaf (a := .mpk k l) hd h trivial (by simp) rfl
  | .mbx k l, f, j, v, cs, us, hd, h, hp => one_leaf (a := .mbx k l) hd h trivial (by simp) rfl
  | .recB k l _, f, j, v, cs, us, hd, h, hp => one_leaf (a := .recB k l _) hd h trivial (by simp) rfl
  | .err, f, j, v, cs, us, hd, h, hp => one_leaf (a := .err) hd h trivial (by simp) rfl
  | .fnk, f, j, v, cs, us, hd, h, hp => one_leaf (a := .fnk) hd h trivial (by simp) rfl
theorem nsl_flat : ∀ {a : Kind}, dOK a = true → flat a = true → nsl a = 0
  | .pair a b, hd, h => by
    simp only [dOK, Bool.and_eq_true] at hd
    simp only [flat, Bool.and_eq_true] at h
    have h1 := nsl_flat hd.2 h.2
    have h2 : nsl a = 0 := by cases a <;> simp [leafOK] at hd <;> simp [flat] at h <;> rfl
    simp [nsl, h1, h2]
  | .slice _, _, h => by simp [flat] at h
  | .unit, _, _ | .int _, _, _ | .bool, _, _ | .str, _, _ | .struct _, _, _ | .arr _ _, _, _ | .clo _ _, _, _ | .ref _, _, _ | .mpk _ _, _, _ | .mbx _ _, _, _ | .recB _ _ _, _, _ | .err, _, _ | .fnk, _, _ => rfl
theorem deepB_flat {e : Kind} {ts : List Nat} (h : deepB e ts = true) : flat e = false := by
  cases e <;> simp [deepB] at h
  cases hf : flat (Kind.struct _) with
  | false => rfl
  | true => have := nsl_flat h.1.1 (by simpa [flat] using hf); omega
end
end Go.Fm
