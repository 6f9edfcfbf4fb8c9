/- The functional machine: stores into deep rows. -/
import Derived.Test.YtmbcblabfgepfaaDoorFmMh
set_option autoImplicit true
set_option linter.unusedVariables false
set_option linter.unusedSimpArgs false
set_option linter.unusedSectionVars false
namespace Go.Fm
variable [Strict]
section
variable {w : World} {O : Nat → Prop}
theorem cast?_self {k : Kind} {y z : k.T} (h : cast? k k y = some z) : y = z := by
  obtain ⟨e, h⟩ := cast?_some h
  exact h
/-- a field that is no row turned -/
theorem DS.updF : ∀ {a : Kind} {cs : List Value} {v z : a.T} {us : List Value} {f o : Nat} {k : Kind} {y : k.T} {cy : List Value}, dOK a = true → DS w O a cs v us → fieldOff a f = some (o, k) → (∀ e, k ≠ .slice e) → updP a f ⟨k, y⟩ v = some z → Cells w O k cy y →
    DS w O a (cs.take o ++ cy ++ cs.drop (o + width k)) z us ∧ partsP a z = partsP a v
  | .pair a b, cs, v, z, us, 0, o, k, y, cy, hd, h, hf, hk, hp, hy => by
    simp [fieldOff] at hf; obtain ⟨rfl, rfl⟩ := hf
    simp only [dOK, Bool.and_eq_true] at hd
    obtain ⟨c1, c2, u1, u2, rfl, rfl, h3, h4⟩ := h
    have hl := DS.length h3
    simp only [updP] at hp
    cases hq : cast? a a y with
    | none => simp [hq] at hp
    | some y' =>
      have := cast?_self hq; subst this
      simp [hq] at hp; subst hp
      rcases DS.leaf hd.1 h3 with ⟨e, A, n, c, rfl, _⟩ | ⟨e1, rfl, e3, _, e5, _⟩
      · exact absurd rfl (hk e)
      · refine ⟨⟨cy, c2, [], u2, ?_, rfl, ?_, h4⟩, ?_⟩
        · rw [List.take_zero, List.nil_append, Nat.zero_add, List.drop_append, List.drop_eq_nil_of_le (by omega), hl, Nat.sub_self]
          simp
        · have : DS w O a cy y [] := by
            cases a <;> first | exact absurd rfl (e1 _) | exact ⟨rfl, hy⟩ | simp [leafOK] at hd
          exact this
        · have h5 : ∀ w : a.T, partsP a w = [] := fun w => by cases a <;> first | exact absurd rfl (e1 _) | rfl | simp [leafOK] at hd
          simp only [partsP, h5]
  | .pair a b, cs, v, z, us, f + 1, o, k, y, cy, hd, h, hf, hk, hp, hy => by
    simp only [fieldOff] at hf
    simp only [dOK, Bool.and_eq_true] at hd
    cases hb : fieldOff b f with
    | none => simp [hb] at hf
    | some x =>
      obtain ⟨o', k'⟩ := x
      simp [hb] at hf; obtain ⟨rfl, rfl⟩ := hf
      simp only [updP] at hp
      cases hq : updP b f ⟨k', y⟩ v.2 with
      | none => simp [hq] at hp
      | some z' =>
        simp [hq] at hp; subst hp
        obtain ⟨c1, c2, u1, u2, rfl, rfl, h3, h4⟩ := h
        have hl := DS.length h3
        obtain ⟨h5, h6⟩ := DS.updF hd.2 h4 hb hk hq hy
        refine ⟨⟨c1, _, u1, u2, ?_, rfl, h3, h5⟩, by simp only [partsP, h6]⟩
        rw [List.take_append, List.drop_append, List.take_of_length_le (by omega), List.drop_eq_nil_of_le (by omega), hl]
        rw [show width a + o' - width a = o' by omega, show width a + o' + width k' - width a = o' + width k' by omega]
        simp
  | .unit, cs, v, z, us, f, o, k, y, cy, hd, h, hf, hk, hp, hy => by simp [fieldOff] at hf
  | .slice _, cs, v, z, us, 0, o, k, y, cy, hd, h, hf, hk, hp, hy => by
    simp [fieldOff] at hf; exact absurd hf.2.symm (hk _)
  | .int _, cs, v, z, us, 0, o, k, y, cy, hd, h, hf, hk, hp, hy | .bool, cs, v, z, us, 0, o, k, y, cy, hd, h, hf, hk, hp, hy | .str, cs, v, z, us, 0, o, k, y, cy, hd, h, hf, hk, hp, hy | .struct _, cs, v, z, us, 0, o, k, y, cy, hd, h, hf, hk, hp, hy
  | .arr _ _, cs, v, z, us, 0, o, k, y, cy, hd, h, hf, hk, hp, hy | .clo _ _, cs, v, z, us, 0, o, k, y, cy, hd, h, hf, hk, hp, hy | .ref _, cs, v, z, us, 0, o, k, y, cy, hd, h, hf, hk, hp, hy | .mpk _ _, cs, v, z, us, 0, o, k, y, cy, hd, h, hf, hk, hp, hy | .mbx _ _, cs, v, z, us, 0, o, k, y, cy, hd, h, hf, hk, hp, hy | .recB _ _ _, cs, v, z, us, 0, o, k, y, cy, hd, h, hf, hk, hp, hy | .err, cs, v, z, us, 0, o, k, y, cy, hd, h, hf, hk, hp, hy | .fnk, cs, v, z, us, 0, o, k, y, cy, hd, h, hf, hk, hp, hy => by
    simp [fieldOff] at hf; obtain ⟨rfl, rfl⟩ := hf
    simp only [updP] at hp
    have := cast?_self hp; subst this
    have h2 := h.2.length
    refine ⟨⟨h.1, ?_⟩, rfl⟩
    rw [List.take_zero, List.nil_append, Nat.zero_add, List.drop_eq_nil_of_le (by rw [h2]; exact Nat.le_refl _), List.append_nil]
    exact hy
  | .int _, cs, v, z, us, _ + 1, o, k, y, cy, hd, h, hf, hk, hp, hy | .bool, cs, v, z, us, _ + 1, o, k, y, cy, hd, h, hf, hk, hp, hy | .str, cs, v, z, us, _ + 1, o, k, y, cy, hd, h, hf, hk, hp, hy | .struct _, cs, v, z, us, _ + 1, o, k, y, cy, hd, h, hf, hk, hp, hy
  | .slice _, cs, v, z, us, _ + 1, o, k, y, cy, hd, h, hf, hk, hp, hy | .arr _ _, cs, v, z, us, _ + 1, o, k, y, cy, hd, h, hf, hk, hp, hy | .clo _ _, cs, v, z, us, _ + 1, o, k, y, cy, hd, h, hf, hk, hp, hy | .ref _, cs, v, z, us, _ + 1, o, k, y, cy, hd, h, hf, hk, hp, hy | .mpk _ _, cs, v, z, us, _ + 1, o, k, y, cy, hd, h, hf, hk, hp, hy | .mbx _ _, cs, v, z, us, _ + 1, o, k, y, cy, hd, h, hf, hk, hp, hy | .recB _ _ _, cs, v, z, us, _ + 1, o, k, y, cy, hd, h, hf, hk, hp, hy | .err, cs, v, z, us, _ + 1, o, k, y, cy, hd, h, hf, hk, hp, hy | .fnk, cs, v, z, us, _ + 1, o, k, y, cy, hd, h, hf, hk, hp, hy => by
    simp [fieldOff] at hf
/-- a row turned, where it lies -/
theorem DS.updS : ∀ {a : Kind} {cs : List Value} {v z : a.T} {us : List Value} {f o : Nat} {e : Kind} {y : List e.T}, dOK a = true → DS w O a cs v us → fieldOff a f = some (o, .slice e) → updP a f ⟨.slice e, y⟩ v = some z →
    DS w O a cs z us ∧ partsP a z = (partsP a v).set (rankP a f) ⟨e, y⟩
  | .pair a b, cs, v, z, us, 0, o, e, y, hd, h, hf, hp => by
    simp [fieldOff] at hf; obtain ⟨rfl, rfl⟩ := hf
    simp only [dOK, Bool.and_eq_true] at hd
    obtain ⟨c1, c2, u1, u2, rfl, rfl, h3, h4⟩ := h
    simp only [updP] at hp
    cases hq : cast? (.slice e) (.slice e) y with
    | none => simp [hq] at hp
    | some y' =>
      have := cast?_self hq; subst this
      simp [hq] at hp; subst hp
      exact ⟨⟨c1, c2, u1, u2, rfl, rfl, h3, h4⟩, rfl⟩
  | .pair a b, cs, v, z, us, f + 1, o, e, y, hd, h, hf, hp => by
    simp only [fieldOff] at hf
    simp only [dOK, Bool.and_eq_true] at hd
    cases hb : fieldOff b f with
    | none => simp [hb] at hf
    | some x =>
      obtain ⟨o', k'⟩ := x
      simp [hb] at hf; obtain ⟨rfl, rfl⟩ := hf
      simp only [updP] at hp
      cases hq : updP b f ⟨.slice e, y⟩ v.2 with
      | none => simp [hq] at hp
      | some z' =>
        simp [hq] at hp; subst hp
        obtain ⟨c1, c2, u1, u2, rfl, rfl, h3, h4⟩ := h
        obtain ⟨h5, h6⟩ := DS.updS hd.2 h4 hb hq
        refine ⟨⟨c1, c2, u1, u2, rfl, rfl, h3, h5⟩, ?_⟩
        have hu : (partsP a v.1).length = nsl a := by
          rcases DS.leaf hd.1 h3 with ⟨e, A, n, c, rfl, rfl, rfl, e3, e4, _⟩ | ⟨e1, rfl, e3, e4, e5, _⟩
          · rfl
          · rw [e4, e5]; rfl
        simp only [partsP, rankP, h6, Nat.add_eq]
        rw [List.set_append_right _ _ (by omega), hu, show nsl a + rankP b f - nsl a = rankP b f by omega]
  | .slice e', cs, v, z, us, 0, o, e, y, hd, h, hf, hp => by
    simp [fieldOff] at hf; obtain ⟨rfl, rfl⟩ := hf
    simp only [updP] at hp
    have := cast?_self hp; subst this
    exact ⟨h, rfl⟩
  | .unit, cs, v, z, us, f, o, e, y, hd, h, hf, hp => by simp [fieldOff] at hf
  | .int _, cs, v, z, us, 0, o, e, y, hd, h, hf, hp | .bool, cs, v, z, us, 0, o, e, y, hd, h, hf, hp | .str, cs, v, z, us, 0, o, e, y, hd, h, hf, hp | .struct _, cs, v, z, us, 0, o, e, y, hd, h, hf, hp
  | .arr _ _, cs, v, z, us, 0, o, e, y, hd, h, hf, hp | .clo _ _, cs, v, z, us, 0, o, e, y, hd, h, hf, hp | .ref _, cs, v, z, us, 0, o, e, y, hd, h, hf, hp | .mpk _ _, cs, v, z, us, 0, o, e, y, hd, h, hf, hp | .mbx _ _, cs, v, z, us, 0, o, e, y, hd, h, hf, hp | .recB _ _ _, cs, v, z, us, 0, o, e, y, hd, h, hf, hp | .err, cs, v, z, us, 0, o, e, y, hd, h, hf, hp | .fnk, cs, v, z, us, 0, o, e, y, hd, h, hf, hp => by simp [fieldOff] at hf
  | .int _, cs, v, z, us, _ + 1, o, e, y, hd, h, hf, hp | .bool, cs, v, z, us, _ + 1, o, e, y, hd, h, hf, hp | .str, cs, v, z, us, _ + 1, o, e, y, hd, h, hf, hp | .struct _, cs, v, z, us, _ + 1, o, e, y, hd, h, hf, hp
  | .slice _, cs, v, z, us, _ + 1, o, e, y, hd, h, hf, hp | .arr _ _, cs, v, z, us, _ + 1, o, e, y, hd, h, hf, hp | .clo _ _, cs, v, z, us, _ + 1, o, e, y, hd, h, hf, hp | .ref _, cs, v, z, us, _ + 1, o, e, y, hd, h, hf, hp | .mpk _ _, cs, v, z, us, _ + 1, o, e, y, hd, h, hf, hp | .mbx _ _, cs, v, z, us, _ + 1, o, e, y, hd, h, hf, hp | .recB _ _ _, cs, v, z, us, _ + 1, o, e, y, hd, h, hf, hp | .err, cs, v, z, us, _ + 1, o, e, y, hd, h, hf, hp | .fnk, cs, v, z, us, _ + 1, o, e, y, hd, h, hf, hp => by simp [fieldOff] at hf
/-- a part without memory turned, along a path -/
theorem DS.updP' {a : Kind} {cs : List Value} {v z : a.T} {us : List Value} {f : Nat} {p : List Nat} {o : Nat} {k : Kind} {y : Sigma Kind.T} {cy : List Value} (hd : dOK a = true) (h : DS w O a cs v us) (hf : pathOff (.struct a) (f :: p) = some (o, k)) (hp : upds (f :: p) y (.struct a) v = some z) (hk : flat y.1 = true) (hy : Cells w O y.1 cy y.2) :
    y.1 = k ∧ DS w O a (cs.take o ++ cy ++ cs.drop (o + width k)) z us ∧ partsP a z = partsP a v := by
  obtain ⟨o1, k1, o2, h1, h2, rfl⟩ := pathOff_struct hf
  simp only [upds, proj] at hp
  rcases DS.field hd h h1 with ⟨e, A, n, c, vs, rfl, e2, e3, e4, e5⟩ | ⟨e1, vk, e2, e3⟩
  · rw [e4] at hp
    simp only at hp
    cases p with
    | nil =>
      simp only [upds] at hp
      cases hq : cast? y.1 (.slice e) y.2 with
      | none => simp [hq] at hp
      | some w =>
        obtain ⟨e, _⟩ := cast?_some hq
        rw [e] at hk; simp [flat] at hk
    | cons g p => simp [upds, proj] at hp
  · rw [e2] at hp
    simp only at hp
    cases hq : upds p y k1 vk with
    | none => simp [hq] at hp
    | some v'' =>
      simp only [hq, upd1] at hp
      obtain ⟨e4, h4⟩ := upds_sound e3 h2 hq hy
      obtain ⟨h5, h6⟩ := DS.updF hd h h1 e1 hp h4
      refine ⟨e4, ?_, h6⟩
      have hl := pathOff_le h2
      have hl1 := fieldOff_le h1
      have hcl := DS.length h
      rw [splice_splice cs _ _ _ _ _ hl (by omega), ← Nat.add_assoc] at h5
      exact h5
/-- an element's own cells turned: its rows stay where they are -/
theorem deep_setElem {ty : Nat} {e : Kind} {ts : List Nat} {v : Value} {l : List e.T} (h : DeepR w O ty e ts v l (fun _ _ => False)) {g n cap : Nat} (hh : hdr v = some (.slice (some ⟨g, 0, none⟩) n cap)) {i : Int} (h0 : 0 ≤ i) (h1 : i < (n : Int))
    {cur : Array Value} {ty' : TypeId} (hg : w.heap[g]? = some (.cells cur ty' (0, 0))) {z : e.T} {us cs : List Value} (hus : ∀ j, prt v i.toNat j = us[j]?) (hz : DE w O e cs (z, us)) (hp : partsE e z = partsE e (rdT e l i)) :
    DeepR (w.setRow g (cur.toList.take (i.toNat * width e) ++ cs ++ cur.toList.drop (i.toNat * width e + width e)).toArray) O ty e ts v (l.set i.toNat z) (fun _ _ => False) := by
  have hDE : ∀ {w' : World} {c : List Value} {p : e.T × List Value}, deepB e ts = true → DE w O e c p → DE w' O e c p := fun hB hd => hd.flat_any hB
  obtain ⟨u0, xs, L, rfl, h2, h3, h4, h5, h6, h7⟩ := h
  rw [hdr_mk] at hh
  obtain rfl : u0 = _ := Option.some.inj hh
  rcases h4.2 with ⟨h8, _⟩ | ⟨g', cap', cur', h8, h8', h9, h10, h11, h12, h13⟩
  · simp at h8
  · simp only [Value.slice.injEq, Option.some.injEq, Addr.mk.injEq, and_true] at h8
    obtain ⟨rfl, rfl, rfl⟩ := h8
    rw [hg] at h9
    simp only [Option.some.injEq, Obj.cells.injEq] at h9
    obtain ⟨rfl, rfl, _⟩ := h9
    have hlL : l.length = L.length := by rw [h3, List.length_map]
    have hil : i.toNat < L.length := by omega
    have hli : L[i.toNat]? = some L[i.toNat] := List.getElem?_eq_getElem hil
    have hus' : L[i.toNat].2 = us := by
      apply List.ext_getElem?
      intro j
      have := hus j
      rw [prt_mk, List.getElem?_map, hli] at this
      exact this
    have hr : rdT e l i = L[i.toNat].1 := by
      unfold rdT
      rw [h3, List.getD_eq_getElem?_getD, List.getElem?_map, hli]; rfl
    have hcs := hz.length
    have hle : i.toNat * width e + width e ≤ l.length * width e := by
      have := Nat.mul_le_mul_right (width e) (show i.toNat + 1 ≤ l.length by omega)
      rw [Nat.add_mul] at this; omega
    have hcap : l.length * width e ≤ cap * width e := Nat.mul_le_mul_right _ h10
    have hmap : (L.set i.toNat (z, us)).map (·.2) = L.map (·.2) := by
      rw [List.map_set]
      apply List.ext_getElem?
      intro k
      by_cases hk : k = i.toNat
      · subst hk; rw [List.getElem?_set_self (by simpa using hil), List.getElem?_map, hli, ← hus']; rfl
      · rw [List.getElem?_set_ne (Ne.symm hk)]
    have hset := Rows.set (DE.len e) i.toNat h5 hil (c := cs) (x := (z, us)) hz
    rw [show (i.toNat + 1) * width e = i.toNat * width e + width e by rw [Nat.add_mul]; omega] at hset
    have hxl : xs.length = l.length * width e := h4.1
    refine ⟨_, xs.take (i.toNat * width e) ++ cs ++ xs.drop (i.toNat * width e + width e), L.set i.toNat (z, us), by rw [hmap], h2, by rw [List.map_set, ← h3], ?_, hset.imp fun c p hp => hDE h2 hp, ?_, by rw [hmap]; exact h7⟩
    · refine ⟨by simp only [List.length_append, List.length_take, List.length_drop, List.length_set, hxl, hcs]; omega, .inr ⟨g, cap, _, by simp, h8', setRow_heap w g cur _ _ (0, 0) hg, by simpa using h10, h11, by simp only [List.size_toArray, List.length_append, List.length_take, List.length_drop, Array.length_toList, hcs, h12]; omega, ?_⟩⟩
      simp only [List.length_set]
      rw [take_splice cur.toList cs (i.toNat * width e) (width e) (l.length * width e) hcs hle (by simp [h12]; omega), h13]
    · intro ii jj p u q ty2 e1 e2 e3 e4 e5
      have hold : ∃ p', L[ii]? = some p' ∧ p'.2[jj]? = some u ∧ (partsE e p'.1)[jj]? = some q := by
        by_cases hk : ii = i.toNat
        · subst hk
          rw [List.getElem?_set_self hil] at e1
          cases e1
          exact ⟨L[i.toNat], hli, by rw [hus']; exact e2, by rw [← hr, ← hp]; exact e3⟩
        · rw [List.getElem?_set_ne (Ne.symm hk)] at e1
          exact ⟨p, e1, e2, e3⟩
      obtain ⟨p', k1, k2, k3⟩ := hold
      obtain ⟨xs', k4, k5⟩ := h6 ii jj p' u q ty2 k1 k2 k3 e4 (fun h => h)
      obtain ⟨a, rfl, ha, _⟩ := deepB_struct h2
      refine ⟨xs', ownsRow_same k4 fun b hb => setRow_other w g b _ fun hbg => ?_, k5.imp fun c x hc => hc.flat_any' (parts_flat ha q (List.mem_of_getElem? k3))⟩
      subst hbg
      obtain ⟨A, c, hA⟩ := ownsRow_slice k4
      exact h7.out ii jj p'.2 u b (by rw [List.getElem?_map, k1]; rfl) k2 rfl (by rw [hA] at hb ⊢; exact hb)
end
theorem proj_struct {a : Kind} {f : Nat} {v : a.T} : proj (.struct a) f v = projP a f v := rfl
theorem updP_kind : ∀ {a : Kind} {f : Nat} {e : Kind} {y : List e.T} {v z : a.T}, updP a f ⟨.slice e, y⟩ v = some z → ∃ o, fieldOff a f = some (o, .slice e)
  | .pair a b, 0, e, y, v, z, h => by
    simp only [updP] at h
    split at h
    · rename_i w hw
      obtain ⟨e1, _⟩ := cast?_some hw
      cases e1
      exact ⟨0, rfl⟩
    · cases h
  | .pair a b, f + 1, e, y, v, z, h => by
    simp only [updP] at h
    split at h
    · rename_i w hw
      obtain ⟨o, ho⟩ := updP_kind hw
      exact ⟨width a + o, by simp only [fieldOff, ho]⟩
    · cases h
  | .unit, f, e, y, v, z, h => by simp [updP] at h
  | .slice e', 0, e, y, v, z, h => by
    simp only [updP] at h
    obtain ⟨e1, _⟩ := cast?_some h
    cases e1
    exact ⟨0, rfl⟩
  | .int _, 0, e, y, v, z, h | .bool, 0, e, y, v, z, h | .str, 0, e, y, v, z, h | .struct _, 0, e, y, v, z, h | .arr _ _, 0, e, y, v, z, h | .clo _ _, 0, e, y, v, z, h | .ref _, 0, e, y, v, z, h | .mpk _ _, 0, e, y, v, z, h | .mbx _ _, 0, e, y, v, z, h | .recB _ _ _, 0, e, y, v, z, h | .err, 0, e, y, v, z, h | .fnk, 0, e, y, v, z, h => by
    simp only [updP] at h
    obtain ⟨e1, _⟩ := cast?_some h
    cases e1
  | .int _, _ + 1, e, y, v, z, h | .bool, _ + 1, e, y, v, z, h | .str, _ + 1, e, y, v, z, h | .struct _, _ + 1, e, y, v, z, h | .slice _, _ + 1, e, y, v, z, h | .arr _ _, _ + 1, e, y, v, z, h | .clo _ _, _ + 1, e, y, v, z, h | .ref _, _ + 1, e, y, v, z, h | .mpk _ _, _ + 1, e, y, v, z, h | .mbx _ _, _ + 1, e, y, v, z, h | .recB _ _ _, _ + 1, e, y, v, z, h | .err, _ + 1, e, y, v, z, h | .fnk, _ + 1, e, y, v, z, h => by
    simp [updP] at h
/-- a row of an element put back -/
theorem deep_setPart {w : World} {O : Nat → Prop} {ty : Nat} {e : Kind} {ts : List Nat} {v : Value} {l : List e.T} {i : Int} {f j : Nat} (h : DeepR w O ty e ts v l (fun i' j' => i' = i.toNat ∧ j' = j)) (hj : j = rankE e f) {u : Value} (hu : prt v i.toNat j = some u) {ty' : Nat} (hty : ts[j]? = some ty')
    {e2 : Kind} {y : List e2.T} {z : e.T} (hz : upd1 e f ⟨.slice e2, y⟩ (rdT e l i) = some z) (hp : PartOK w O ty' u ⟨e2, y⟩) : DeepR w O ty e ts v (l.set i.toNat z) (fun _ _ => False) := by
  obtain ⟨u0, xs, L, rfl, h2, h3, h4, h5, h6, h7⟩ := h
  obtain ⟨a, rfl, ha, hn⟩ := deepB_struct h2
  rw [prt_mk, List.getElem?_map] at hu
  cases hp1 : L[i.toNat]? with
  | none => rw [hp1] at hu; cases hu
  | some p =>
    rw [hp1] at hu
    have hu : p.2[j]? = some u := hu
    have hil := (List.getElem?_eq_some_iff.1 hp1).1
    have hLi : L[i.toNat] = p := (List.getElem?_eq_some_iff.1 hp1).2
    have hr : rdT (.struct a) l i = p.1 := by
      unfold rdT
      rw [h3, List.getD_eq_getElem?_getD, List.getElem?_map, hp1]; rfl
    rw [hr] at hz
    obtain ⟨o, ho⟩ := updP_kind (a := a) hz
    have hg := Rows.get (DE.len (.struct a)) i.toNat h5 hil
    rw [hLi] at hg
    obtain ⟨k1, k2⟩ := DS.updS ha (show DS w O a _ p.1 p.2 from hg) ho hz
    have hset := Rows.set (DE.len (.struct a)) i.toNat h5 hil (x := (z, p.2)) (show DE w O (.struct a) _ (z, p.2) from k1)
    have hxe : xs.take (i.toNat * width (.struct a)) ++ (xs.drop (i.toNat * width (.struct a))).take (width (.struct a)) ++ xs.drop ((i.toNat + 1) * width (.struct a)) = xs := by
      rw [List.append_assoc, show (i.toNat + 1) * width (.struct a) = i.toNat * width (.struct a) + width (.struct a) by rw [Nat.add_mul]; omega, ← List.drop_drop, List.take_append_drop, List.take_append_drop]
    rw [hxe] at hset
    have hmap : (L.set i.toNat (z, p.2)).map (·.2) = L.map (·.2) := by
      rw [List.map_set]
      apply List.ext_getElem?
      intro k
      by_cases hk : k = i.toNat
      · subst hk; rw [List.getElem?_set_self (by simpa using hil), List.getElem?_map, hp1]; rfl
      · rw [List.getElem?_set_ne (Ne.symm hk)]
    refine ⟨u0, xs, L.set i.toNat (z, p.2), by rw [hmap], h2, by rw [List.map_set, ← h3], by rw [List.length_set]; exact h4, hset, ?_, by rw [hmap]; exact h7⟩
    intro ii jj p' u' q ty2 e1 e2' e3 e4 _
    by_cases hk : ii = i.toNat
    · subst hk
      rw [List.getElem?_set_self hil] at e1
      cases e1
      have e3 : (partsP a z)[jj]? = some q := e3
      rw [k2] at e3
      by_cases hjj : jj = j
      · subst hjj
        have hlt := (List.getElem?_eq_some_iff.1 e3).1
        have hje : rankP a f = jj := hj.symm
        rw [hje, List.getElem?_set_self (by simpa using hlt)] at e3
        cases e3
        have e2' : p.2[jj]? = some u' := e2'
        rw [hu] at e2'; cases e2'
        rw [hty] at e4; cases e4
        exact hp
      · have hje : rankP a f = j := hj.symm
        rw [hje, List.getElem?_set_ne (Ne.symm hjj)] at e3
        exact h6 i.toNat jj p u' q ty2 hp1 e2' e3 e4 (fun h => hjj h.2)
    · rw [List.getElem?_set_ne (Ne.symm hk)] at e1
      exact h6 ii jj p' u' q ty2 e1 e2' e3 e4 (fun h => hk h.1)
section
variable {m : Mem}
/-- what is given away into a deep row -/
structure Given1 (m : Mem) (nodes nd' : Nat → Option Node) (a : Kind) (ts : List Nat) (v : a.T) (cs us : List Value) : Prop where
  sub : ∀ q x, nd' q = some x → nodes q = some x
  ds : DS m.w m.O a cs v us
  part : ∀ (j : Nat) (u : Value) (q : Sigma fun e : Kind => List e.T) (ty : Nat), us[j]? = some u → (partsP a v)[j]? = some q → ts[j]? = some ty → PartOK m.w m.O ty u q
  blk : ∀ (j : Nat) (u : Value) (b : Nat), us[j]? = some u → blkOf u = some b → ∃ q ty e l, nodes q = some (.row ty e l) ∧ Blk (m.loc q) b ∧ nd' q = none
  inj : ∀ (j j' : Nat) (u u' : Value) (b : Nat), us[j]? = some u → us[j']? = some u' → blkOf u = some b → blkOf u' = some b → j = j'
theorem giveL_sound (hN : ∀ r nd, m.nodes r = some nd → NodeRel m r nd) {nodes nd' : Nat → Option Node} (hn : ∀ q x, nodes q = some x → m.nodes q = some x) {a : Kind} {ts : List Nat} {x : Slot} {u : Value} {v : a.T} (hl : leafOK a = true) (hs : SRel m x u) (hf : Form a u) (h : giveL nodes a ts x = some (v, nd')) : ∃ us, Given1 m nodes nd' a ts v u.cells.toList us := by
  have hval : ∀ {k : Kind} {v : k.T}, leafOK k = true → (∀ e, k ≠ .slice e) → Form k u → asVal nodes 8 x k = some v → nodes = nd' → ∃ us, Given1 m nodes nd' k ts v u.cells.toList us := by
    intro k v hl hk hf hx hnd
    subst hnd
    have hfl : flat k = true := by cases k <;> first | exact absurd rfl (hk _) | (simp [leafOK] at hl; done) | (simp only [leafOK, Bool.and_eq_true] at hl; exact hl.1)
    have hreg : Reg m.w (fun _ => False) k u v := asVal_sound (m := m) (nodes := nodes) hn hN (fun b h => h.elim) 8 _ _ _ _ hx hs (fun _ _ _ _ h => h)
    have hc : Cells m.w m.O k u.cells.toList v := hreg.cells.flat_any' hfl
    have hds : DS m.w m.O k u.cells.toList v [] := by cases k <;> first | exact absurd rfl (hk _) | (simp [leafOK] at hl; done) | exact ⟨rfl, hc⟩
    have hp : partsP k v = [] := by cases k <;> first | exact absurd rfl (hk _) | (simp [leafOK] at hl; done) | rfl
    exact ⟨[], fun _ _ h => h, hds, by simp, by simp, by simp⟩
  cases a with
  | slice e =>
    have hf' : ∃ A n c, u = .slice A n c ∧ u.cells.toList = [u] → True := ⟨none, 0, 0, fun _ => trivial⟩
    cases ts with
    | nil => cases x <;> simp [giveL] at h
    | cons ty ts =>
      cases x <;> simp only [giveL] at h <;> (try (cases h; done))
      · -- nils
        simp only [SRel] at hs
        subst hs
        simp only [Option.some.injEq, Prod.mk.injEq] at h
        obtain ⟨rfl, rfl⟩ := h
        refine ⟨[.slice none 0 0], fun _ _ h => h, ⟨none, 0, 0, rfl, rfl⟩, ?_, ?_, ?_⟩
        · intro j u q ty' h1 h2 h3
          cases j with
          | succ j => simp at h1
          | zero =>
            simp only [List.getElem?_cons_zero, Option.some.injEq, partsP] at h1 h2
            subst h1; subst h2
            exact ⟨[], World.ownsRow_nil _ _ _ _, rfl⟩
        · intro j u b h1 h2
          cases j with
          | succ j => simp at h1
          | zero => simp at h1; subst h1; simp [blkOf] at h2
        · intro j j' u u' b h1 h2 h3 h4
          cases j with
          | succ j => simp at h1
          | zero => simp at h1; subst h1; simp [blkOf] at h3
      · -- a row
        rename_i q
        split at h
        · rename_i ty' e' l hq
          split at h
          · rename_i hty
            split at h
            · rename_i w hw
              simp only [Option.some.injEq, Prod.mk.injEq] at h
              obtain ⟨rfl, rfl⟩ := h
              obtain ⟨e1, rfl⟩ := cast?_some hw
              cases e1
              simp only [SRel] at hs
              have hm := hn q _ hq
              have hu := hs.2.2 _ _ _ hm
              obtain ⟨A, n, c, hA⟩ := hs.2.1
              obtain ⟨xs, h1, h2⟩ := hN q _ hm
              have hcell : u.cells.toList = [u] := by rw [hA]; rfl
              refine ⟨[u], fun q' x hq' => ?_, ⟨A, n, c, by rw [hcell, hA], by rw [hcell]⟩, ?_, ?_, ?_⟩
              · by_cases hqq : q' = q
                · subst hqq; simp [upd_same] at hq'
                · simpa [upd_other _ _ hqq] using hq'
              · intro j u' q' ty2 h3 h4 h5
                cases j with
                | succ j => simp at h3
                | zero =>
                  simp only [List.getElem?_cons_zero, Option.some.injEq, partsP] at h3 h4 h5
                  subst h3; subst h4; subst h5
                  exact ⟨xs, by rw [hty, hu]; exact h1, h2⟩
              · intro j u' b h3 h4
                cases j with
                | succ j => simp at h3
                | zero =>
                  simp at h3; subst h3
                  refine ⟨q, _, _, _, hq, ?_, by simp [upd_same]⟩
                  rw [← hu]; rw [hA] at h4 ⊢; exact h4
              · intro j j' u' u2 b h3 h4 _ _
                cases j with
                | succ j => simp at h3
                | zero =>
                  cases j' with
                  | succ j' => simp at h4
                  | zero => rfl
            · cases h
          · cases h
        · cases h
  | pair a b => simp [leafOK] at hl
  | unit => simp [leafOK] at hl
  | int k => 
    simp only [giveL] at h
    split at h
    · rename_i w hw
      cases h
      exact hval hl (by simp) hf hw rfl
    · cases h
  | bool => 
    simp only [giveL] at h
    split at h
    · rename_i w hw
      cases h
      exact hval hl (by simp) hf hw rfl
    · cases h
  | str => 
    simp only [giveL] at h
    split at h
    · rename_i w hw
      cases h
      exact hval hl (by simp) hf hw rfl
    · cases h
  | struct k => 
    simp only [giveL] at h
    split at h
    · rename_i w hw
      cases h
      exact hval hl (by simp) hf hw rfl
    · cases h
  | arr k n => 
    simp only [giveL] at h
    split at h
    · rename_i w hw
      cases h
      exact hval hl (by simp) hf hw rfl
    · cases h
  | clo k n => 
    simp only [giveL] at h
    split at h
    · rename_i w hw
      cases h
      exact hval hl (by simp) hf hw rfl
    · cases h
  | ref k => 
    simp only [giveL] at h
    split at h
    · rename_i w hw
      cases h
      exact hval hl (by simp) hf hw rfl
    · cases h
  | mpk k k' => 
    simp only [giveL] at h
    split at h
    · rename_i w hw
      cases h
      exact hval hl (by simp) hf hw rfl
    · cases h
  | mbx k k' => 
    simp only [giveL] at h
    split at h
    · rename_i w hw
      cases h
      exact hval hl (by simp) hf hw rfl
    · cases h
  | recB k k' _ => 
    simp only [giveL] at h
    split at h
    · rename_i w hw
      cases h
      exact hval hl (by simp) hf hw rfl
    · cases h
  | err => 
    simp only [giveL] at h
    split at h
    · rename_i w hw
      cases h
      exact hval hl (by simp) hf hw rfl
    · cases h
  | fnk => 
    simp only [giveL] at h
    split at h
    · rename_i w hw
      cases h
      exact hval hl (by simp) hf hw rfl
    · cases h
theorem giveP_one (hN : ∀ r nd, m.nodes r = some nd → NodeRel m r nd) {a : Kind} {ts : List Nat} {xs : List Slot} {regs : List Value} {nodes nd' : Nat → Option Node} {v : a.T} (hn : ∀ q x, nodes q = some x → m.nodes q = some x) (hd : dOK a = true) (hp : ∀ b c, a ≠ .pair b c) (hs : SRels m a xs regs)
    (h : ∀ x, xs = [x] → giveL nodes a ts x = some (v, nd')) (h' : ∀ y z l, xs = y :: z :: l → False) : ∃ us, Given1 m nodes nd' a ts v (catCells regs) us := by
  have hl : leafOK a = true := by cases a <;> first | exact absurd rfl (hp _ _) | exact hd
  cases xs with
  | nil =>
    simp only [SRels] at hs
    rw [hs.1] at hl; simp [leafOK] at hl
  | cons x xs =>
    cases xs with
    | cons y l => exact (h' _ _ _ rfl).elim
    | nil =>
      simp only [SRels] at hs
      obtain ⟨u, regs', rfl, h1, h2⟩ := hs
      rcases h2 with ⟨a', b', e1, h3, _⟩ | ⟨_, _, _, h3, h4, _⟩
      · exact absurd rfl h3
      · subst h3
        obtain ⟨us, G⟩ := giveL_sound hN hn hl h1 h4 (h x rfl)
        exact ⟨us, by simpa [catCells] using G⟩
theorem giveP_sound (hN : ∀ r nd, m.nodes r = some nd → NodeRel m r nd) (hI : ∀ r r' nd nd' b, m.nodes r = some nd → m.nodes r' = some nd' → Blk (m.loc r) b → Blk (m.loc r') b → r = r') :
    ∀ {a : Kind} {ts : List Nat} {xs : List Slot} {regs : List Value} {nodes nd' : Nat → Option Node} {v : a.T}, (∀ q x, nodes q = some x → m.nodes q = some x) → dOK a = true → SRels m a xs regs → giveP nodes a ts xs = some (v, nd') → ∃ us, Given1 m nodes nd' a ts v (catCells regs) us
  | .pair a b, ts, [], regs, nodes, nd', v, hn, hd, hs, h => by simp [giveP] at h
  | .pair a b, ts, x :: xs, regs, nodes, nd', v, hn, hd, hs, h => by
    simp only [dOK, Bool.and_eq_true] at hd
    simp only [SRels] at hs
    obtain ⟨u, regs', rfl, h1, h2⟩ := hs
    rcases h2 with ⟨a', b', e1, h3, h4, h5, h6⟩ | ⟨h3, _⟩
    · cases e1
      simp only [giveP] at h
      cases hg : giveL nodes a ts x with
      | none => simp [hg] at h
      | some p =>
        obtain ⟨v1, nd1⟩ := p
        simp only [hg] at h
        cases hg2 : giveP nd1 b (ts.drop (nsl a)) xs with
        | none => simp [hg2] at h
        | some p2 =>
          obtain ⟨v2, nd2⟩ := p2
          simp only [hg2, Option.some.injEq, Prod.mk.injEq] at h
          obtain ⟨rfl, rfl⟩ := h
          obtain ⟨u1, G1⟩ := giveL_sound hN hn hd.1 h1 h4 hg
          obtain ⟨u2, G2⟩ := giveP_sound hN hI (fun q x hq => hn q x (G1.sub q x hq)) hd.2 h6 hg2
          have hl1 : u1.length = nsl a ∧ (partsP a v1).length = nsl a := by
            rcases DS.leaf hd.1 G1.ds with ⟨e, A, n, c, rfl, e2, e3, e4, e5, _⟩ | ⟨_, e2, _, e4, e5, _⟩
            · rw [e3]; exact ⟨rfl, rfl⟩
            · rw [e2, e4, e5]; exact ⟨rfl, rfl⟩
          refine ⟨u1 ++ u2, fun q x hq => G1.sub q x (G2.sub q x hq), ⟨u.cells.toList, catCells regs', u1, u2, catCells_cons u regs', rfl, G1.ds, G2.ds⟩, ?_, ?_, ?_⟩
          · intro j u q ty k1 k2 k3
            simp only [partsP] at k2
            by_cases hj : j < u1.length
            · rw [List.getElem?_append_left hj] at k1
              rw [List.getElem?_append_left (by omega)] at k2
              exact G1.part j u q ty k1 k2 k3
            · rw [List.getElem?_append_right (by omega)] at k1 k2
              refine G2.part _ u q ty k1 (by rw [hl1.1]; rw [hl1.2] at k2; exact k2) ?_
              rw [List.getElem?_drop, hl1.1, show nsl a + (j - nsl a) = j by omega]; exact k3
          · intro j u b k1 k2
            by_cases hj : j < u1.length
            · rw [List.getElem?_append_left hj] at k1
              obtain ⟨q, ty, e, l, k3, k4, k5⟩ := G1.blk j u b k1 k2
              refine ⟨q, ty, e, l, k3, k4, ?_⟩
              cases hq : nd2 q with
              | none => rfl
              | some x => have := G2.sub q x hq; rw [k5] at this; cases this
            · rw [List.getElem?_append_right (by omega)] at k1
              obtain ⟨q, ty, e, l, k3, k4, k5⟩ := G2.blk _ u b k1 k2
              exact ⟨q, ty, e, l, G1.sub _ _ k3, k4, k5⟩
          · have cross : ∀ (j j' : Nat) (u u' : Value) (b : Nat), u1[j]? = some u → u2[j']? = some u' → blkOf u = some b → blkOf u' = some b → False := fun j j' u u' b k1 k2 k3 k4 => by
              obtain ⟨q, ty, e, l, k5, k6, k7⟩ := G1.blk j u b k1 k3
              obtain ⟨q', ty', e', l', k8, k9, k10⟩ := G2.blk j' u' b k2 k4
              have := hI q q' _ _ b (hn q _ k5) (hn q' _ (G1.sub _ _ k8)) k6 k9
              subst this
              rw [k7] at k8; cases k8
            intro j j' u u' b k1 k2 k3 k4
            by_cases hj : j < u1.length <;> by_cases hj' : j' < u1.length
            · rw [List.getElem?_append_left hj] at k1
              rw [List.getElem?_append_left hj'] at k2
              exact G1.inj j j' u u' b k1 k2 k3 k4
            · rw [List.getElem?_append_left hj] at k1
              rw [List.getElem?_append_right (by omega)] at k2
              exact (cross j _ u u' b k1 k2 k3 k4).elim
            · rw [List.getElem?_append_right (by omega)] at k1
              rw [List.getElem?_append_left hj'] at k2
              exact (cross j' _ u' u b k2 k1 k4 k3).elim
            · rw [List.getElem?_append_right (by omega)] at k1 k2
              have := G2.inj _ _ u u' b k1 k2 k3 k4
              omega
    · exact h3.elim
  | .slice e, ts, xs, regs, nodes, nd', v, hn, hd, hs, h => giveP_one hN hn hd (by simp) hs (fun x hx => by subst hx; simpa only [giveP] using h) (fun y z l hx => by subst hx; simp [giveP] at h)
  | .unit, ts, xs, regs, nodes, nd', v, hn, hd, hs, h => by simp [dOK, leafOK] at hd
  | .int k, ts, xs, regs, nodes, nd', v, hn, hd, hs, h => giveP_one hN hn hd (by simp) hs (fun x hx => by subst hx; simpa only [giveP] using h) (fun y z l hx => by subst hx; simp [giveP] at h)
  | .bool, ts, xs, regs, nodes, nd', v, hn, hd, hs, h => giveP_one hN hn hd (by simp) hs (fun x hx => by subst hx; simpa only [giveP] using h) (fun y z l hx => by subst hx; simp [giveP] at h)
  | .str, ts, xs, regs, nodes, nd', v, hn, hd, hs, h => giveP_one hN hn hd (by simp) hs (fun x hx => by subst hx; simpa only [giveP] using h) (fun y z l hx => by subst hx; simp [giveP] at h)
  | .struct k, ts, xs, regs, nodes, nd', v, hn, hd, hs, h => giveP_one hN hn hd (by simp) hs (fun x hx => by subst hx; simpa only [giveP] using h) (fun y z l hx => by subst hx; simp [giveP] at h)
  | .arr k e, ts, xs, regs, nodes, nd', v, hn, hd, hs, h => giveP_one hN hn hd (by simp) hs (fun x hx => by subst hx; simpa only [giveP] using h) (fun y z l hx => by subst hx; simp [giveP] at h)
  | .clo k e, ts, xs, regs, nodes, nd', v, hn, hd, hs, h => giveP_one hN hn hd (by simp) hs (fun x hx => by subst hx; simpa only [giveP] using h) (fun y z l hx => by subst hx; simp [giveP] at h)
  | .ref k, ts, xs, regs, nodes, nd', v, hn, hd, hs, h => giveP_one hN hn hd (by simp) hs (fun x hx => by subst hx; simpa only [giveP] using h) (fun y z l hx => by subst hx; simp [giveP] at h)
  | .mpk k e, ts, xs, regs, nodes, nd', v, hn, hd, hs, h => giveP_one hN hn hd (by simp) hs (fun x hx => by subst hx; simpa only [giveP] using h) (fun y z l hx => by subst hx; simp [giveP] at h)
  | .mbx k e, ts, xs, regs, nodes, nd', v, hn, hd, hs, h => giveP_one hN hn hd (by simp) hs (fun x hx => by subst hx; simpa only [giveP] using h) (fun y z l hx => by subst hx; simp [giveP] at h)
  | .recB k e _, ts, xs, regs, nodes, nd', v, hn, hd, hs, h => giveP_one hN hn hd (by simp) hs (fun x hx => by subst hx; simpa only [giveP] using h) (fun y z l hx => by subst hx; simp [giveP] at h)
  | .err, ts, xs, regs, nodes, nd', v, hn, hd, hs, h => giveP_one hN hn hd (by simp) hs (fun x hx => by subst hx; simpa only [giveP] using h) (fun y z l hx => by subst hx; simp [giveP] at h)
  | .fnk, ts, xs, regs, nodes, nd', v, hn, hd, hs, h => giveP_one hN hn hd (by simp) hs (fun x hx => by subst hx; simpa only [giveP] using h) (fun y z l hx => by subst hx; simp [giveP] at h)
end
section
variable {w : World} {O : Nat → Prop}
/-- the blocks of the row and of the other elements -/
def RestB (v : Value) (i b : Nat) : Prop := (∃ u, hdr v = some u ∧ blkOf u = some b) ∨ ∃ i' j' u, i' ≠ i ∧ prt v i' j' = some u ∧ blkOf u = some b
/-- an element with its rows turned -/
theorem deep_putElem {ty : Nat} {e : Kind} {ts : List Nat} {v : Value} {l : List e.T} {sk : Nat → Nat → Prop} (h : DeepR w O ty e ts v l sk) {i : Int} (hsk : ∀ i' j', sk i' j' → i' = i.toNat) {g n cap : Nat} (hh : hdr v = some (.slice (some ⟨g, 0, none⟩) n cap)) (h0 : 0 ≤ i) (h1 : i < (n : Int))
    {cur : Array Value} {ty' : TypeId} (hg : w.heap[g]? = some (.cells cur ty' (0, 0))) {z : e.T} {us cs : List Value} (hz : DE w O e cs (z, us))
    (hp : ∀ (j : Nat) (u : Value) (q : Sigma fun e : Kind => List e.T) (ty : Nat), us[j]? = some u → (partsE e z)[j]? = some q → ts[j]? = some ty → PartOK w O ty u q)
    (hout : ∀ (j : Nat) (u : Value) (b : Nat), us[j]? = some u → blkOf u = some b → ¬ RestB v i.toNat b) (hin : ∀ (j j' : Nat) (u u' : Value) (b : Nat), us[j]? = some u → us[j']? = some u' → blkOf u = some b → blkOf u' = some b → j = j') :
    ∃ v', hdr v' = hdr v ∧ DeepR (w.setRow g (cur.toList.take (i.toNat * width e) ++ cs ++ cur.toList.drop (i.toNat * width e + width e)).toArray) O ty e ts v' (l.set i.toNat z) (fun _ _ => False) ∧ ∀ b, Blk v' b → RestB v i.toNat b ∨ ∃ (j : Nat) (u : Value), us[j]? = some u ∧ blkOf u = some b := by
  have hDE : ∀ {w' : World} {c : List Value} {p : e.T × List Value}, deepB e ts = true → DE w O e c p → DE w' O e c p := fun hB hd => hd.flat_any hB
  obtain ⟨u0, xs, L, rfl, h2, h3, h4, h5, h6, h7⟩ := h
  rw [hdr_mk] at hh
  obtain rfl : u0 = _ := Option.some.inj hh
  have hdrt : ∀ c, Value.slice (some ⟨g, 0, none⟩) n cap ≠ .tuple c := by simp
  rcases h4.2 with ⟨h8, _⟩ | ⟨g', cap', cur', h8, h8', h9, h10, h11, h12, h13⟩
  · simp at h8
  · simp only [Value.slice.injEq, Option.some.injEq, Addr.mk.injEq, and_true] at h8
    obtain ⟨rfl, rfl, rfl⟩ := h8
    rw [hg] at h9
    simp only [Option.some.injEq, Obj.cells.injEq] at h9
    obtain ⟨rfl, rfl, _⟩ := h9
    have hlL : l.length = L.length := by rw [h3, List.length_map]
    have hil : i.toNat < L.length := by omega
    have hcs := hz.length
    have hle : i.toNat * width e + width e ≤ l.length * width e := by
      have := Nat.mul_le_mul_right (width e) (show i.toNat + 1 ≤ l.length by omega)
      rw [Nat.add_mul] at this; omega
    have hcap : l.length * width e ≤ cap * width e := Nat.mul_le_mul_right _ h10
    have hset := Rows.set (DE.len e) i.toNat h5 hil (c := cs) (x := (z, us)) hz
    rw [show (i.toNat + 1) * width e = i.toNat * width e + width e by rw [Nat.add_mul]; omega] at hset
    have hxl : xs.length = l.length * width e := h4.1
    have hhb : ∀ b, blkOf (.slice (some ⟨g, 0, none⟩) l.length cap) = some b → RestB (mkLoc (.slice (some ⟨g, 0, none⟩) l.length cap) (L.map (·.2))) i.toNat b := fun b hb => .inl ⟨_, hdr_mk _ _, hb⟩
    have hgb : RestB (mkLoc (.slice (some ⟨g, 0, none⟩) l.length cap) (L.map (·.2))) i.toNat g := hhb g rfl
    have hLb : ∀ (ii jj : Nat) (p : e.T × List Value) (u : Value) (b : Nat), ii ≠ i.toNat → L[ii]? = some p → p.2[jj]? = some u → blkOf u = some b → RestB (mkLoc (.slice (some ⟨g, 0, none⟩) l.length cap) (L.map (·.2))) i.toNat b := fun ii jj p u b k0 k1 k2 k3 => .inr ⟨ii, jj, u, k0, by rw [prt_mk, List.getElem?_map, k1]; exact k2, k3⟩
    -- what lies at an element
    have hcase : ∀ (ii jj : Nat) (p : e.T × List Value) (u : Value), (L.set i.toNat (z, us))[ii]? = some p → p.2[jj]? = some u → (ii = i.toNat ∧ p = (z, us) ∧ us[jj]? = some u) ∨ (ii ≠ i.toNat ∧ L[ii]? = some p) := fun ii jj p u k1 k2 => by
      by_cases hk : ii = i.toNat
      · subst hk
        rw [List.getElem?_set_self hil] at k1
        cases k1
        exact .inl ⟨rfl, rfl, k2⟩
      · rw [List.getElem?_set_ne (Ne.symm hk)] at k1
        exact .inr ⟨hk, k1⟩
    refine ⟨mkLoc (.slice (some ⟨g, 0, none⟩) l.length cap) ((L.set i.toNat (z, us)).map (·.2)), by rw [hdr_mk, hdr_mk], ⟨_, xs.take (i.toNat * width e) ++ cs ++ xs.drop (i.toNat * width e + width e), L.set i.toNat (z, us), rfl, h2, by rw [List.map_set, ← h3], ?_, hset.imp fun c p hp => hDE h2 hp, ?_, ?_⟩, ?_⟩
    · refine ⟨by simp only [List.length_append, List.length_take, List.length_drop, List.length_set, hxl, hcs]; omega, .inr ⟨g, cap, _, by simp, h8', setRow_heap w g cur _ _ (0, 0) hg, by simpa using h10, h11, by simp only [List.size_toArray, List.length_append, List.length_take, List.length_drop, Array.length_toList, hcs, h12]; omega, ?_⟩⟩
      simp only [List.length_set]
      rw [take_splice cur.toList cs (i.toNat * width e) (width e) (l.length * width e) hcs hle (by simp [h12]; omega), h13]
    · intro ii jj p u q ty2 e1 e2 e3 e4 e5
      obtain ⟨a, rfl, ha, _⟩ := deepB_struct h2
      have hfin : PartOK w O ty2 u q ∧ blkOf u ≠ some g := by
        rcases hcase ii jj p u e1 e2 with ⟨_, rfl, k1⟩ | ⟨k0, k1⟩
        · exact ⟨hp jj u q ty2 k1 e3 e4, fun hb => hout jj u g k1 hb hgb⟩
        · exact ⟨h6 ii jj p u q ty2 k1 e2 e3 e4 (fun h => k0 (hsk _ _ h)), fun hb => h7.out ii jj p.2 u g (by rw [List.getElem?_map, k1]; rfl) e2 rfl hb⟩
      obtain ⟨⟨xs', k4, k5⟩, k6⟩ := hfin
      refine ⟨xs', ownsRow_same k4 fun b hb => setRow_other w g b _ fun hbg => ?_, k5.imp fun c x hc => hc.flat_any' (parts_flat ha q (List.mem_of_getElem? e3))⟩
      subst hbg
      obtain ⟨A, c, hA⟩ := ownsRow_slice k4
      exact k6 (by rw [hA] at hb ⊢; exact hb)
    · constructor
      · intro ii jj us' u b k1 k2 k3 k4
        rw [List.getElem?_map] at k1
        cases hp1 : (L.set i.toNat (z, us))[ii]? with
        | none => rw [hp1] at k1; cases k1
        | some p =>
          rw [hp1] at k1; cases k1
          rcases hcase ii jj p u hp1 k2 with ⟨_, rfl, k5⟩ | ⟨_, k5⟩
          · exact hout jj u b k5 k4 (hhb b k3)
          · exact h7.out ii jj p.2 u b (by rw [List.getElem?_map, k5]; rfl) k2 k3 k4
      · intro ii jj ii' jj' us1 us2 u u' b k1 k2 k3 k4 k5 k6
        rw [List.getElem?_map] at k1 k3
        cases hp1 : (L.set i.toNat (z, us))[ii]? with
        | none => rw [hp1] at k1; cases k1
        | some p =>
          cases hp2 : (L.set i.toNat (z, us))[ii']? with
          | none => rw [hp2] at k3; cases k3
          | some p' =>
            rw [hp1] at k1; cases k1
            rw [hp2] at k3; cases k3
            rcases hcase ii jj p u hp1 k2 with ⟨rfl, rfl, k7⟩ | ⟨k8, k7⟩ <;> rcases hcase ii' jj' p' u' hp2 k4 with ⟨rfl, rfl, k9⟩ | ⟨k10, k9⟩
            · exact ⟨rfl, hin jj jj' u u' b k7 k9 k5 k6⟩
            · exact (hout jj u b k7 k5 (hLb _ _ _ _ _ k10 k9 k4 k6)).elim
            · exact (hout jj' u' b k9 k6 (hLb _ _ _ _ _ k8 k7 k2 k5)).elim
            · exact h7.inn ii jj ii' jj' p.2 p'.2 u u' b (by rw [List.getElem?_map, k7]; rfl) k2 (by rw [List.getElem?_map, k9]; rfl) k4 k5 k6
    · intro b hb
      rcases (Blk_mk hdrt).1 hb with hb | ⟨us', hus', u, hu, hb⟩
      · exact .inl (hhb b hb)
      · obtain ⟨p, hp', rfl⟩ := List.mem_map.1 hus'
        obtain ⟨ii, hii⟩ := List.mem_iff_getElem?.1 hp'
        obtain ⟨jj, hjj⟩ := List.mem_iff_getElem?.1 hu
        rcases hcase ii jj p u hii hjj with ⟨_, rfl, k1⟩ | ⟨k0, k1⟩
        · exact .inr ⟨jj, u, k1, hb⟩
        · exact .inl (hLb _ _ _ _ _ k0 k1 hjj hb)
end
section
variable {P : Program} {cx : Ctx} {st st' : St} {a : Act} {m m' : Mem} {w0 : World} {O0 : OX} {n : Nat} {R : Type} {r : R} {G : World → Prop} {o : Oper} {K : St → Option R}
theorem hard_store_deepF (hT : TypesOK P cx) (hR : Rel st a m w0 O0 n) (hd : ∀ t, o.dst = some t → t < n ∧ O0.fx t = none) {t : TypeId} {p x : Operand} (ho : o.op = .store t p x) {q : Nat} {e0 : Kind} {i : Int} {path : List Nat} (hev : evalS st p = .delem q e0 i path) (hfl : flat (cx.kd t) = true)
    (h : hardC cx st o K = some r) : ∃ st', K st' = some r ∧ HOp P o a m.w st' w0 O0 n := by
  simp only [hardC, ho] at h
  cases hpl : plain (cx.kd t) with
  | false => simp [hpl] at h
  | true =>
  simp only [hpl, cond_true, hev, hfl] at h
  split at h
  · rename_i ty e ts l hn
    split at h
    · rename_i he
      subst he
      split at h
      · rename_i f p' y hy
        split at h
        · rename_i z hz
          have hsa : setAt e0 (f :: p') (cx.kd t) y l i z = l.set i.toNat z := setAt_eq hz
          rw [hsa] at h
          have hp := evalS_sound hR p
          rw [hev] at hp; simp only [SRel] at hp
          obtain ⟨hus, h0, g, nn, cap, o1, k1, h1, hlt, h2, h3⟩ := hp
          have hD := hR.deep hn
          obtain ⟨cur, ty', us, h4, h5, h6, h7, h8, h9⟩ := deep_elem hD h1 h0 hlt
          have hB : deepB e0 ts = true := by obtain ⟨_, _, _, _, hB, _⟩ := hD; exact hB
          obtain ⟨a', rfl, ha, _⟩ := deepB_struct hB
          have h7 : DS m.w m.O a' _ (rdT (.struct a') l i) us := h7
          have hx := evalS_sound hR x
          have hreg0 : Reg m.w (fun _ => False) (cx.kd t) (a.eval x) y := asVal_sound (m := m) (nodes := st.nodes) (fun q x h => by rw [hR.nodes]; exact h) hR.ok.node (fun b h => h.elim) 8 _ _ _ _ hy hx (fun _ _ _ _ h => h)
          have hf := hreg0.form
          have hcy : Cells m.w m.O (cx.kd t) (a.eval x).cells.toList y := hreg0.cells.flat_any' hfl
          obtain ⟨e1, k4, k5⟩ := DS.updP' ha h7 h2 hz hfl hcy
          dsimp only at e1
          subst e1
          have hle := pathOff_le h2
          have hrun := run_storeVar (P := P) (t := t) (plain_of hT hpl).2.2 h4 (i.toNat * width (.struct a') + o1) (by omega) hf.size hf.ones
          have hcl : cur.toList.length = cur.size := Array.length_toList
          have hset := deep_setElem hD h1 h0 hlt h4 h8 (z := z) (cs := _) (by exact k4) k5
          rw [splice_splice cur.toList _ _ _ _ _ hle (by omega), ← Nat.add_assoc] at hset
          have hR2 := hR.set (nd' := .deep ty (.struct a') ts (l.set i.toNat z)) hn trivial (g := g) (Blk_hdr h1 (by simp) rfl) _ (show NodeRel _ _ _ from hset.flat_any)
          exact ⟨_, h, .skipd (run_storeOp ho h3 hrun) rfl (hR2.put o.dst hd (SRel.dead _ _))⟩
        · cases h
      · cases h
    · cases h
  · split at h
    · split at h <;> cases h
    · cases h
  · cases h
/-- a deep row under a new name -/
theorem Rel.rend (hR : Rel st a m w0 O0 n) {q N : Nat} (hu : m.used N = true) (hh : hdr (m.loc N) = hdr (m.loc q)) : Rel { st with slots := fun t => rend q N (st.slots t) } a m w0 O0 n := by
  refine ⟨hR.nodes, hR.used, hR.ok, fun t => ?_, hR.defers, hR.size, hR.fixed⟩
  have hs := hR.slot t
  show SRel m (Go.Fm.rend q N (st.slots t)) _
  cases hst : st.slots t with
  | droot q' =>
    rw [hst] at hs
    simp only [Go.Fm.rend]
    cases hb : Nat.beq q' q with
    | false => simpa only [cond_false] using hs
    | true =>
      have := Nat.eq_of_beq_eq_true hb
      subst this
      simp only [cond_true, SRel] at hs ⊢
      exact ⟨hu, by rw [hh]; exact hs.2.1, hs.2.2⟩
  | delem q' e i p =>
    rw [hst] at hs
    simp only [Go.Fm.rend]
    cases hb : Nat.beq q' q with
    | false => simpa only [cond_false] using hs
    | true =>
      have := Nat.eq_of_beq_eq_true hb
      subst this
      simp only [cond_true, SRel] at hs ⊢
      exact ⟨hu, hs.2.1, by rw [hh]; exact hs.2.2⟩
  | _ => rw [hst] at hs; simpa only [Go.Fm.rend] using hs
theorem giveW_sound (hN : ∀ r nd, m.nodes r = some nd → NodeRel m r nd) (hI : ∀ r r' nd nd' b, m.nodes r = some nd → m.nodes r' = some nd' → Blk (m.loc r) b → Blk (m.loc r') b → r = r') {nodes nd' : Nat → Option Node} (hn : ∀ q x, nodes q = some x → m.nodes q = some x)
    {a' k : Kind} {ts : List Nat} {x : Slot} {u : Value} {v : a'.T} (ha : dOK a' = true) (hs : SRel m x u) (h : giveW nodes (.struct a') ts k x = some (v, nd')) : width k = width a' ∧ ∃ us, Given1 m nodes nd' a' ts v u.cells.toList us := by
  unfold giveW at h
  split at h
  · rename_i hk
    subst hk
    refine ⟨rfl, ?_⟩
    cases x <;> simp only [giveE] at h <;> (try (cases h; done))
    rename_i k' xs'
    split at h
    · rename_i hk'
      subst hk'
      simp only [SRel] at hs
      obtain ⟨a2, regs, e1, hval, hsr⟩ := hs
      cases e1
      obtain ⟨us, G⟩ := giveP_sound hN hI hn ha hsr h
      exact ⟨us, by rw [show u.cells.toList = catCells regs by rw [hval]; simp [Value.cells]]; exact G⟩
    · cases h
  · cases a' with
    | slice e1 =>
      simp only at h
      split at h
      · rename_i hk
        refine ⟨by rw [← hk], ?_⟩
        have hf : Form (.slice e1) u := by
          cases ts with
          | nil => cases x <;> simp [giveL] at h
          | cons ty ts =>
            cases x <;> simp only [giveL] at h <;> (try (cases h; done))
            · simp only [SRel] at hs; subst hs; exact slice_form
            · simp only [SRel] at hs
              obtain ⟨A, n, c, hA⟩ := hs.2.1
              rw [hA]; exact slice_form
        exact giveL_sound hN hn ha hs hf h
      · cases h
    | _ => cases h
/-- an element of a deep row is put, with its rows -/
theorem put_core (hT : TypesOK P cx) (hR : Rel st a m w0 O0 n) (hd : ∀ t, o.dst = some t → t < n ∧ O0.fx t = none) {t : TypeId} {p x : Operand} (ho : o.op = .store t p x) {q : Nat} {e0 : Kind} {i : Int} (hev : evalS st p = .delem q e0 i []) (hpl : plain (cx.kd t) = true)
    {ty : Nat} {ts : List Nat} {l : List e0.T} {vD : Value} {x0 : Node} (hn : st.nodes q = some x0) {sk : Nat → Nat → Prop} (hD : DeepR m.w m.O ty e0 ts vD l sk) (hsk : ∀ i' j', sk i' j' → i' = i.toNat) (hh : hdr (m.loc q) = hdr vD) (hblk : ∀ b, RestB vD i.toNat b → Blk (m.loc q) b)
    {v : e0.T} {nd : Nat → Option Node} {st1 : St} (hgv : giveW (upd st.nodes q none) e0 ts (cx.kd t) (evalS st x) = some (v, nd)) (hmk : ({ st with nodes := nd } : St).make (fresh st.gen o.dst 0) (.deep ty e0 ts (l.set i.toNat v)) = some st1)
    (h : K (({ st1 with slots := fun t => rend q (fresh st.gen o.dst 0) (st1.slots t) } : St).put o.dst .dead) = some r) : ∃ st', K st' = some r ∧ HOp P o a m.w st' w0 O0 n := by
  have hp := evalS_sound hR p
  rw [hev] at hp; simp only [SRel] at hp
  obtain ⟨hus, h0, g, nn, cap, o1, k1, h1, hlt, h2, h3⟩ := hp
  simp only [pathOff, Option.some.injEq, Prod.mk.injEq] at h2
  obtain ⟨rfl, rfl⟩ := h2
  rw [hh] at h1
  obtain ⟨cur, ty', us0, h4, h5, h6, h7, h8, h9⟩ := deep_elem hD h1 h0 hlt
  have hB : deepB e0 ts = true := by obtain ⟨_, _, _, _, hB, _⟩ := hD; exact hB
  obtain ⟨a', rfl, ha, _⟩ := deepB_struct hB
  have hx := evalS_sound hR x
  have hsub : ∀ q' y, upd st.nodes q none q' = some y → m.nodes q' = some y ∧ q' ≠ q := fun q' y hq => by
    by_cases hqq : q' = q
    · subst hqq; simp [upd_same] at hq
    · exact ⟨by rw [hR.nodes]; simpa [upd_other _ _ hqq] using hq, hqq⟩
  obtain ⟨hwk, us, G⟩ := giveW_sound hR.ok.node hR.ok.inj (fun q' y hq => (hsub q' y hq).1) ha hx hgv
  have hn' : m.nodes q = some x0 := by rw [hR.nodes]; exact hn
  have hout : ∀ (j : Nat) (u : Value) (b : Nat), us[j]? = some u → blkOf u = some b → ¬ RestB vD i.toNat b := fun j u b k2 k3 k4 => by
    obtain ⟨q2, ty2, e2, l2, k5, k6, k7⟩ := G.blk j u b k2 k3
    obtain ⟨k8, k9⟩ := hsub q2 _ k5
    exact k9 (hR.ok.inj q2 q _ _ b k8 hn' k6 (hblk b k4))
  obtain ⟨v', hv1, hv2, hv3⟩ := deep_putElem hD hsk h1 h0 hlt h4 (z := v) (us := us) (cs := (a.eval x).cells.toList) (show DE m.w m.O (.struct a') _ _ from G.ds) G.part hout G.inj
  have hle : i.toNat * width (.struct a') + width (.struct a') ≤ cur.size := h9
  have hcl : cur.toList.length = cur.size := Array.length_toList
  have hlen : (a.eval x).cells.toList.length = width (.struct a') := DS.length (k := a') G.ds
  have hrun := run_storeVar (P := P) (t := t) (plain_of hT hpl).2.2 h4 (i.toNat * width (.struct a')) (by rw [hwk]; exact hle) (u := a.eval x) (by rw [hwk, ← Array.length_toList]; exact hlen) (DS.one G.ds)
  rw [hwk] at hrun
  obtain ⟨hm1, hm2, hm3, hm4⟩ := make_some hmk
  have hNu : m.used (fresh st.gen o.dst 0) = false := by rw [hR.used]; exact hm1
  have hqN : q ≠ fresh st.gen o.dst 0 := fun e => by rw [e] at hus; rw [hus] at hNu; cases hNu
  let m1 : Mem := ⟨m.w.setRow g (cur.toList.take (i.toNat * width (.struct a')) ++ (a.eval x).cells.toList ++ cur.toList.drop (i.toNat * width (.struct a') + width (.struct a'))).toArray, upd nd (fresh st.gen o.dst 0) (some (.deep ty (.struct a') ts (l.set i.toNat v))), upd m.used (fresh st.gen o.dst 0) true, upd m.loc (fresh st.gen o.dst 0) v', m.X⟩
  have hgB : Blk (m.loc q) g := hblk g (.inl ⟨_, h1, rfl⟩)
  have hTn : Turn m m1 (fun b => Blk (m.loc q) b ∨ ∃ (j : Nat) (u : Value), us[j]? = some u ∧ blkOf u = some b) := {
    X := rfl
    free := by
      rintro b (hb | ⟨j, u, k2, k3⟩)
      · exact ⟨q, _, hn', hb⟩
      · obtain ⟨q2, ty2, e2, l2, k5, k6, k7⟩ := G.blk j u b k2 k3
        exact ⟨q2, _, (hsub q2 _ k5).1, k6⟩
    frame := ⟨rfl, ⟨rfl, fun _ => Nat.le_refl _⟩, rfl, by simp [m1, World.setRow], fun b _ hb => setRow_other m.w g b _ fun e => hb (.inl (by subst e; exact hgB))⟩
    used := fun q' hq' => by
      by_cases hqN' : q' = fresh st.gen o.dst 0
      · subst hqN'; simp [m1, upd_same]
      · simpa [m1, upd_other _ _ hqN'] using hq'
    loc := fun q' hq' => by
      have hqN' : q' ≠ fresh st.gen o.dst 0 := fun e => by subst e; rw [hNu] at hq'; cases hq'
      simp [m1, upd_other _ _ hqN']
    old := fun q' y hq' hy => by
      have hqN' : q' ≠ fresh st.gen o.dst 0 := fun e => by subst e; rw [hNu] at hq'; cases hq'
      simp only [m1, upd_other _ _ hqN'] at hy
      obtain ⟨k2, k3⟩ := hsub q' y (G.sub q' y hy)
      refine ⟨k2, fun b hb => ?_⟩
      rintro (hb2 | ⟨j, u, k4, k5⟩)
      · exact k3 (hR.ok.inj q' q _ _ b k2 hn' hb hb2)
      · obtain ⟨q2, ty2, e2, l2, k6, k7, k8⟩ := G.blk j u b k4 k5
        have := hR.ok.inj q' q2 _ _ b k2 (hsub q2 _ k6).1 hb k7
        subst this
        rw [k8] at hy; cases hy
    blk := fun q' y hq' hy b hb => by
      by_cases hqN' : q' = fresh st.gen o.dst 0
      · subst hqN'
        simp only [m1, upd_same] at hb
        exact .inl ((hv3 b hb).imp (hblk b) id)
      · simp only [m1, upd_other _ _ hqN'] at hy
        have := hR.ok.used q' y (hsub q' y (G.sub q' y hy)).1
        rw [hq'] at this; cases this }
  have honly : ∀ q' y, m.used q' = false → m1.nodes q' = some y → q' = fresh st.gen o.dst 0 ∧ y = .deep ty (.struct a') ts (l.set i.toNat v) := fun q' y hq' hy => by
    by_cases hqN' : q' = fresh st.gen o.dst 0
    · subst hqN'
      simp only [m1, upd_same, Option.some.injEq] at hy
      exact ⟨rfl, hy.symm⟩
    · simp only [m1, upd_other _ _ hqN'] at hy
      have := hR.ok.used q' y (hsub q' y (G.sub q' y hy)).1
      rw [hq'] at this; cases this
  have hR1 : Rel st1 a m1 w0 O0 n := hTn.rel hR (by rw [hm4]) (by rw [hm2]) (by rw [hm3]; simp only [m1, hR.used]) (fun q' y hq' hy => by
      obtain ⟨rfl, rfl⟩ := honly q' y hq' hy
      refine ⟨by simp [m1, upd_same], ?_⟩
      show DeepR m1.w m1.O ty (.struct a') ts (m1.loc (fresh st.gen o.dst 0)) _ _
      rw [show m1.loc (fresh st.gen o.dst 0) = v' by simp [m1, upd_same]]
      exact hv2.flat_any) (fun q1 q2 y1 y2 b hu1 hu2 hy1 hy2 _ _ => by rw [(honly q1 y1 hu1 hy1).1, (honly q2 y2 hu2 hy2).1])
  have hR2 := hR1.rend (q := q) (N := fresh st.gen o.dst 0) (by simp [m1, upd_same]) (by
    rw [show m1.loc (fresh st.gen o.dst 0) = v' by simp [m1, upd_same], hTn.loc q hus, hv1, hh])
  exact ⟨_, h, .skipd (run_storeOp ho h3 hrun) rfl (hR2.put o.dst hd (SRel.dead _ _))⟩
/-- an array of rows made empty -/
theorem zero_store (hT : TypesOK P cx) (hR : Rel st a m w0 O0 n) (hd : ∀ t, o.dst = some t → t < n ∧ O0.fx t = none) {t : TypeId} {p x : Operand} (ho : o.op = .store t p x) {q : Nat} {e0 : Kind} {i : Int} (hev : evalS st p = .delem q e0 i []) (hpl : plain (cx.kd t) = true)
    {ty : Nat} {ts : List Nat} {l : List e0.T} (hn : st.nodes q = some (.deep ty e0 ts l))
    (h : (match cx.kd t, evalS st x with
            | .arr n (.slice e'), .zero k => if k = .arr n (.slice e') then (if e0 = .struct (.slice e') then (if i = 0 then (if l.length = n then (match ({ st with nodes := upd st.nodes q none } : St).make (fresh st.gen o.dst 0) (.deep ty e0 ts (List.replicate n (zeroT e0))) with
              | some st' => K (({ st' with slots := fun t => rend q (fresh st.gen o.dst 0) (st'.slots t) } : St).put o.dst .dead)
              | none => none) else none) else none) else none) else none
            | _, _ => none) = some r) : ∃ st', K st' = some r ∧ HOp P o a m.w st' w0 O0 n := by
  have hp := evalS_sound hR p
  have hx := evalS_sound hR x
  rw [hev] at hp; simp only [SRel] at hp
  split at h
  · rename_i kn e' k hk hxs
    split at h
    · rename_i hkk
      split at h
      · rename_i he
        split at h
        · rename_i hi
          split at h
          · rename_i hln
            split at h
            · rename_i st1 hmk
              subst hkk; subst he; subst hi; subst hln
              rw [hxs] at hx
              simp only [SRel] at hx
              obtain ⟨hus, _, g, nn, cap0, o1, k1, h1, hlt, h2, h3⟩ := hp
              simp only [pathOff, Option.some.injEq, Prod.mk.injEq] at h2
              obtain ⟨rfl, rfl⟩ := h2
              have h3 : a.eval p = .pointer (some ⟨g, 0, none⟩) := by simpa using h3
              have hD := hR.deep hn
              have hn' : m.nodes q = some (.deep ty (.struct (.slice e')) ts l) := by rw [hR.nodes]; exact hn
              have hB : deepB (.struct (.slice e')) ts = true := by obtain ⟨_, _, _, _, hB, _⟩ := hD; exact hB
              have hzl : (a.eval x).cells.toList = (List.replicate l.length (zcells (.struct (.slice e')))).flatten := hx
              have hzn : (a.eval x).cells.size = l.length := by rw [← Array.length_toList, hzl]; simp [zcells]
              have hw1 : width (Kind.struct (.slice e')) = 1 := rfl
              have hwt : width (cx.kd t) = l.length := by rw [hk]; simp [width]
              obtain ⟨v0, hv0, hhdr0⟩ : ∃ v0, v0 = m.loc q ∧ hdr v0 = hdr (m.loc q) := ⟨_, rfl, rfl⟩
              have hown : ∃ cap cur tyb, hdr (m.loc q) = some (.slice (some ⟨g, 0, none⟩) l.length cap) ∧ 0 ≤ g ∧ m.w.heap[g]? = some (.cells cur ty (0, 0)) ∧ l.length ≤ cap ∧ cap ≤ maxLen ∧ cur.size = cap * 1 ∧ tyb = ty := by
                obtain ⟨u0, xs, L, g1, g2, g3, g4, g5, g6, g7⟩ := hD
                rw [g1, hdr_mk] at h1
                obtain rfl : u0 = _ := Option.some.inj h1
                rcases g4.2 with ⟨h8, _⟩ | ⟨g', cap', cur', h8, h8', h9, h10, h11, h12, h13⟩
                · simp at h8
                · simp only [Value.slice.injEq, Option.some.injEq, Addr.mk.injEq, and_true] at h8
                  obtain ⟨rfl, rfl, rfl⟩ := h8
                  exact ⟨cap0, cur', ty, by rw [g1, hdr_mk], h8', h9, h10, h11, h12, rfl⟩
              obtain ⟨cap, cur, tyb, g1, g2, g3, g4, g5, g6, rfl⟩ := hown
              have hone : ∀ v ∈ (a.eval x).cells.toList, v.oneCell' = true := by
                rw [hzl]
                intro v hv
                obtain ⟨L, hL, hvL⟩ := List.mem_flatten.1 hv
                rw [(List.mem_replicate.1 hL).2] at hvL
                simp [zcells] at hvL
                subst hvL; rfl
              have hrun := run_storeVar (P := P) (t := t) (plain_of hT hpl).2.2 g3 0 (by rw [hwt]; omega) (u := a.eval x) (by rw [hwt, hzn]) hone
              rw [hwt] at hrun
              obtain ⟨hm1, hm2, hm3, hm4⟩ := make_some hmk
              generalize hN : fresh st.gen o.dst 0 = N at h hmk hm1 hm2 hm3
              have hNu : m.used N = false := by rw [hR.used]; exact hm1
              have hqN : q ≠ N := fun e => by rw [e] at hus; rw [hus] at hNu; cases hNu
              let cs := cur.toList.take 0 ++ (a.eval x).cells.toList ++ cur.toList.drop (0 + l.length)
              let v' := mkLoc (.slice (some ⟨g, 0, none⟩) l.length cap) (List.replicate l.length (List.replicate ts.length (.slice none 0 0)))
              let m1 : Mem := ⟨m.w.setRow g cs.toArray, upd (upd m.nodes q none) N (some (.deep tyb (.struct (.slice e')) ts (List.replicate l.length (zeroT (.struct (.slice e')))))), upd m.used N true, upd m.loc N v', m.X⟩
              have hgB : Blk (m.loc q) g := Blk_hdr g1 (by simp) rfl
              have hv' : ∀ b, Blk v' b → b = g := fun b hb => by
                rcases (Blk_mk (by simp)).1 hb with hb | ⟨us, hus, u, hu, hb⟩
                · simp [blkOf] at hb; exact hb.symm
                · rw [(List.mem_replicate.1 hus).2] at hu
                  rw [(List.mem_replicate.1 hu).2] at hb
                  simp [blkOf] at hb
              have hcsl : cs.length = cap := by
                simp only [cs, List.take_zero, List.nil_append, List.length_append, List.length_drop, Array.length_toList, hzn, g6]
                omega
              have hdz : DeepR m1.w m1.O tyb (.struct (.slice e')) ts v' (List.replicate l.length (zeroT (.struct (.slice e')))) (fun _ _ => False) := by
                refine deep_zeros hB rfl ?_
                rw [← hzl]
                refine ⟨by rw [Array.length_toList, hzn, hw1, Nat.mul_one], .inr ⟨g, cap, cs.toArray, rfl, g2, setRow_heap m.w g cur _ _ (0, 0) g3, g4, g5, by simp [hcsl, hw1], ?_⟩⟩
                simp only [cs, List.take_zero, List.nil_append, hw1, Nat.mul_one]
                have hzn' : (a.eval x).cells.toList.length = l.length := by rw [Array.length_toList, hzn]
                rw [List.take_append_of_le_length (by omega), List.take_of_length_le (by omega)]
              have hTn : Turn m m1 (fun b => Blk (m.loc q) b) := {
                X := rfl
                free := fun b hb => ⟨q, _, hn', hb⟩
                frame := ⟨rfl, ⟨rfl, fun _ => Nat.le_refl _⟩, rfl, by simp [m1, World.setRow], fun b _ hb => setRow_other m.w g b _ fun e => hb (by subst e; exact hgB)⟩
                used := fun q' hq' => by
                  by_cases hqN' : q' = N
                  · subst hqN'; simp [m1, upd_same]
                  · simpa [m1, upd_other _ _ hqN'] using hq'
                loc := fun q' hq' => by
                  have hqN' : q' ≠ N := fun e => by subst e; rw [hNu] at hq'; cases hq'
                  simp [m1, upd_other _ _ hqN']
                old := fun q' y hq' hy => by
                  have hqN' : q' ≠ N := fun e => by subst e; rw [hNu] at hq'; cases hq'
                  simp only [m1, upd_other _ _ hqN'] at hy
                  by_cases hqq : q' = q
                  · subst hqq; simp [upd_same] at hy
                  · rw [upd_other _ _ hqq] at hy
                    exact ⟨hy, fun b hb hb2 => hqq (hR.ok.inj q' q _ _ b hy hn' hb hb2)⟩
                blk := fun q' y hq' hy b hb => by
                  by_cases hqN' : q' = N
                  · subst hqN'
                    simp only [m1, upd_same] at hb
                    rw [hv' b hb]; exact .inl hgB
                  · simp only [m1, upd_other _ _ hqN'] at hy
                    by_cases hqq : q' = q
                    · subst hqq; simp [upd_same] at hy
                    · rw [upd_other _ _ hqq] at hy
                      have := hR.ok.used q' y hy
                      rw [hq'] at this; cases this }
              have honly : ∀ q' y, m.used q' = false → m1.nodes q' = some y → q' = N ∧ y = .deep tyb (.struct (.slice e')) ts (List.replicate l.length (zeroT (.struct (.slice e')))) := fun q' y hq' hy => by
                by_cases hqN' : q' = N
                · subst hqN'
                  simp only [m1, upd_same, Option.some.injEq] at hy
                  exact ⟨rfl, hy.symm⟩
                · simp only [m1, upd_other _ _ hqN'] at hy
                  by_cases hqq : q' = q
                  · subst hqq; simp [upd_same] at hy
                  · rw [upd_other _ _ hqq] at hy
                    have := hR.ok.used q' y hy
                    rw [hq'] at this; cases this
              have hR1 : Rel st1 a m1 w0 O0 n := hTn.rel hR (by rw [hm4]) (by rw [hm2]; simp only [m1, hR.nodes]) (by rw [hm3]; simp only [m1, hR.used]) (fun q' y hq' hy => by
                  obtain ⟨rfl, rfl⟩ := honly q' y hq' hy
                  refine ⟨by simp [m1, upd_same], ?_⟩
                  show DeepR m1.w m1.O tyb (.struct (.slice e')) ts (m1.loc q') _ _
                  rw [show m1.loc q' = v' by simp [m1, upd_same]]
                  exact hdz) (fun q1 q2 y1 y2 b hu1 hu2 hy1 hy2 _ _ => by rw [(honly q1 y1 hu1 hy1).1, (honly q2 y2 hu2 hy2).1])
              have hR2 := hR1.rend (q := q) (N := N) (by simp [m1, upd_same]) (by
                rw [show m1.loc N = v' by simp [m1, upd_same], hTn.loc q hus, g1]; exact hdr_mk _ _)
              exact ⟨_, h, .skipd (run_storeOp ho h3 hrun) rfl (hR2.put o.dst hd (SRel.dead _ _))⟩
            · cases h
          · cases h
        · cases h
      · cases h
    · cases h
  · cases h
theorem hard_store_deepA (hT : TypesOK P cx) (hR : Rel st a m w0 O0 n) (hd : ∀ t, o.dst = some t → t < n ∧ O0.fx t = none) {t : TypeId} {p x : Operand} (ho : o.op = .store t p x) {q : Nat} {e0 : Kind} {i : Int} {path : List Nat} (hev : evalS st p = .delem q e0 i path) (hfl : flat (cx.kd t) = false)
    (h : hardC cx st o K = some r) : ∃ st', K st' = some r ∧ HOp P o a m.w st' w0 O0 n := by
  simp only [hardC, ho] at h
  cases hpl : plain (cx.kd t) with
  | false => simp [hpl] at h
  | true =>
  simp only [hpl, cond_true, hev, hfl, cond_false] at h
  split at h
  · rename_i ty e ts l hn
    split at h
    · rename_i he
      subst he
      split at h
      · cases hz : isZero (evalS st x) with
        | true =>
          rw [hz, cond_true] at h
          exact zero_store hT hR hd ho hev hpl hn h
        | false =>
          rw [hz, cond_false] at h
          split at h
          · rename_i v nd hgv
            split at h
            · rename_i st1 hmk
              have hD := hR.deep hn
              refine put_core hT hR hd ho hev hpl hn hD (fun _ _ h => h.elim) rfl (fun b hb => ?_) hgv hmk h
              rcases hb with ⟨u, k1, k2⟩ | ⟨i', j', u, _, k1, k2⟩
              · obtain ⟨A, c, hA⟩ := hD.hdr
                rw [hA] at k1; cases k1
                exact Blk_hdr hA (by simp) k2
              · exact Blk_prt k1 k2
            · cases h
          · cases h
      · cases h
    · cases h
  · rename_i ty e ts l i' j' hn
    split at h
    · rename_i he
      subst he
      split at h
      · rename_i hi
        subst hi
        split at h
        · split at h
          · rename_i v nd hgv
            split at h
            · rename_i st1 hmk
              have hn' : m.nodes q = some (.hole ty e0 ts l i j') := by rw [hR.nodes]; exact hn
              obtain ⟨vD, hD, hh, hB, _⟩ := hR.ok.node q _ hn'
              refine put_core hT hR hd ho hev hpl hn hD (fun _ _ h => h.1) hh (fun b hb => (hB b).2 ?_) hgv hmk h
              rcases hb with h1 | ⟨i2, j2, u, k0, k1, k2⟩
              · exact .inl h1
              · exact .inr ⟨i2, j2, u, fun h => k0 h.1, k1, k2⟩
            · cases h
          · cases h
        · cases h
      · cases h
    · cases h
  · cases h
end
end Go.Fm
