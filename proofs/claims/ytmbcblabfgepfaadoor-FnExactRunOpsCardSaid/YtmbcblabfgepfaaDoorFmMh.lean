/- The functional machine: maps made and written, texts told as bytes. -/
import Derived.Test.YtmbcblabfgepfaaDoorFmP
import Derived.Laws.IdiomStrings
set_option autoImplicit true
set_option linter.unusedVariables false
set_option linter.unusedSimpArgs false
set_option linter.unusedSectionVars false
namespace Go.Fm
variable [Strict]
section
variable {P : Program} {cx : Ctx} {st st' : St} {a : Act} {m m' : Mem} {w0 : World} {O0 : OX} {n : Nat} {R : Type} {r : R} {G : World → Prop} {o : Oper} {K : St → Option R}

theorem hard_bytes (hT : TypesOK P cx) (hR : Rel st a m w0 O0 n) (hd : ∀ t, o.dst = some t → t < n ∧ O0.fx t = none) {s d : TypeId} {x : Operand} (ho : o.op = .convert s d x) (h : hardC cx st o K = some r) :
    ∃ st', K st' = some r ∧ HOp P o a m.w st' w0 O0 n := by
  simp only [hardC, ho] at h
  split at h
  · rename_i v hk1 hk2 he
    have hx := evalS_sound hR x
    rw [he] at hx; simp only [SRel] at hx
    have h1 := kd_str hT hk1.symm
    obtain ⟨te, h2, h3, _⟩ := kd_slice hT hk2.symm
    have h4 := tyOK_intk (hT.ty te (by rw [h3]; simp)) h3
    have hrun := run_bytes_of_string (P := P) m.w s d te v h1 h2 h4
    generalize hcap : grownCap m.w v.size 0 te = cap at hrun
    have hcv : v.size ≤ cap := by rw [← hcap]; exact grownCap_ge _ _ _ _
    have hg : Grow m.w (m.w.drew.alloc (.cells (bytesRow v cap) te ((bytesRow v cap).size, (bytesRow v cap).size + 1))) := Grow.trans (Grow.drew m.w) (Grow.alloc _ _)
    have hR1 : Rel st a (m.at _) w0 O0 n := hR.grow hg
    refine ⟨_, h, .value (u := .slice (some ⟨m.w.heap.size, 0, none⟩) v.size cap) ?_ rfl (hR1.put o.dst hd (SRel.valI ?_))⟩
    · simp only [execOp, ho, hx.str_inv, hrun, Sem.run_bind, Result.andThen_ok, Sem.run_pure]
      rfl
    · unfold Reg; rw [if_neg (by simp [aggB])]
      refine ⟨rfl, ?_⟩
      simp only [Cells]
      have hbl : List.length (byteL v) = v.size := by unfold byteL; rw [List.length_map, size_len]
      refine ⟨some ⟨m.w.heap.size, 0, none⟩, cap, by rw [hbl], by rw [hbl]; exact hcv, .inr ⟨m.w.heap.size, 0, bytesRow v cap, te, ((bytesRow v cap).size, (bytesRow v cap).size + 1), rfl, ?_, ?_, ?_⟩⟩
      · show (m.w.heap.push _)[m.w.heap.size]? = _
        simp
      · rintro hO
        have hO' : m.O m.w.heap.size := hO
        have := hR.ok.O_lt hO'
        omega
      · have hrows : ∀ (l : List UInt8), Rows (fun (x : List Value) (y : Int) => x = [Value.int .u8 y]) (l.map fun b => Value.int .u8 (b.toNat : Int)) (l.map fun b => (b.toNat : Int)) := by
          intro l
          induction l with
          | nil => rfl
          | cons b l ih => exact ⟨_, _, rfl, rfl, ih⟩
        have hl : ((bytesRow v cap).toList.drop 0).take (List.length (byteL v) * width (.int .u8)) = v.data.toList.map fun b => Value.int .u8 (b.toNat : Int) := by
          simp only [bytesRow, List.drop_zero, Array.toList_append, Array.toList_map, width, Nat.mul_one, byteL, List.length_map]
          rw [List.take_append_of_le_length (by simp), List.take_of_length_le (by simp)]
        rw [hl]
        exact hrows _
  · cases h
theorem hard_makeMap (hT : TypesOK P cx) (hR : Rel st a m w0 O0 n) (hd : ∀ t, o.dst = some t → t < n ∧ O0.fx t = none) {t : TypeId} (ho : o.op = .makeMap t none) (h : hardC cx st o K = some r) :
    ∃ st', K st' = some r ∧ HOp P o a m.w st' w0 O0 n := by
  simp only [hardC, ho] at h
  split at h
  · rename_i kt et hmp
    split at h
    · rename_i hkk
      simp only [Bool.and_eq_true] at hkk
      obtain ⟨st1, h1, h2⟩ := born_some h
      obtain ⟨e1, e2, e3, e4⟩ := make_some h1
      have hu : m.used (fresh st.gen o.dst 0) = false := by rw [hR.used]; exact e1
      have hv : ∀ b, Blk (.map (some m.w.heap.size)) b → m.w.heap.size ≤ b := fun b hb => by simp [Blk, blkOf] at hb; omega
      have hnode : NodeRel (m.add (m.w.alloc (.map #[] 0)) (fresh st.gen o.dst 0) (.mp (cx.kd kt) (cx.kd et) []) (.map (some m.w.heap.size))) (fresh st.gen o.dst 0) (.mp (cx.kd kt) (cx.kd et) []) :=
        ⟨hkk.1, hkk.2, m.w.heap.size, by simp [Mem.add, upd_same], heap_alloc_new m.w _⟩
      have hR1 := hR.add h1 (Grow.alloc m.w (.map #[] 0)) hv hnode
      refine ⟨_, h2, .value (u := .map (some m.w.heap.size)) (w' := m.w.alloc (.map #[] 0)) ?_ rfl (hR1.put o.dst hd ?_)⟩
      · simp [execOp, ho]
        rfl
      · simp only [SRel]
        exact ⟨by simp [Mem.add, upd_same], ⟨_, rfl⟩, fun _ _ _ _ => by simp [Mem.add, upd_same]⟩
    · cases h
  · cases h
/-- a node's object turned -/
theorem obj_le {q g : Nat} {nd nd' : Node} (hn : m.nodes q = some nd) (hsh : shape nd nd') (hg : Blk (m.loc q) g) {w' : World} (hw : Frame0 m.w (fun b => b = g) w') : m.le (m.set w' q nd') where
  keep := ⟨fun b hlt hb => hw.block b hlt fun e => hb (by subst e; exact .inl ⟨q, nd, hn, hg⟩), fun b _ h => h.imp (fun ⟨q', x, h1, h2⟩ => by
    by_cases hq : q' = q
    · subst hq; exact ⟨q', nd, hn, h2⟩
    · exact ⟨q', x, by simpa [Mem.set, upd_other _ _ hq] using h1, h2⟩) id⟩
  used := fun q h => h
  loc := fun q _ => rfl
  node := fun q' x _ h => by
    by_cases hq : q' = q
    · subst hq
      simp only [Mem.set, upd_same, Option.some.injEq] at h
      subst h; exact .inr ⟨nd, hn, hsh⟩
    · exact .inr ⟨x, by simpa [Mem.set, upd_other _ _ hq] using h, shape.refl x⟩
theorem Rel.obj (hR : Rel st a m w0 O0 n) {q g : Nat} {nd nd' : Node} (hn : st.nodes q = some nd) (hsh : shape nd nd') (hg : Blk (m.loc q) g) {w' : World} (hw : Frame0 m.w (fun b => b = g) w') (hnode : NodeRel (m.set w' q nd') q nd') :
    Rel (st.setNode q (some nd')) a (m.set w' q nd') w0 O0 n := by
  have hn' : m.nodes q = some nd := by rw [hR.nodes]; exact hn
  have hle := obj_le hn' hsh hg hw
  have hback : ∀ q' x, (m.set w' q nd').nodes q' = some x → ∃ x', m.nodes q' = some x' ∧ (q' ≠ q → x' = x) := fun q' x h => by
    by_cases hq : q' = q
    · subst hq; exact ⟨nd, hn', fun h => absurd rfl h⟩
    · exact ⟨x, by simpa [Mem.set, upd_other _ _ hq] using h, fun _ => rfl⟩
  refine ⟨by simp [Mem.set, St.setNode, hR.nodes], hR.used, ?_, fun t => SRel.mono hle _ (hR.slot t), hR.defers, hR.size, hR.fixed⟩
  refine hR.ok.change rfl ⟨hw.os, hw.tape, hw.output, hw.size, fun b hlt hb => hw.block b hlt fun e => hb (by subst e; exact ⟨q, nd, hn', hg⟩)⟩ ?_ ?_ ?_ ?_
  · intro q' x hx
    by_cases hq : q' = q
    · subst hq
      have : x = nd' := by simpa [Mem.set, upd_same] using hx.symm
      subst this; exact hnode
    · obtain ⟨x', h1, h2⟩ := hback q' x hx
      have := h2 hq; subst this
      refine (hR.ok.node q' x' h1).mono hle (hR.ok.used q' x' h1) fun b hb => ?_
      exact hw.block b ((hR.ok.node q' x' h1).blk_lt hb) fun e => hq (hR.ok.inj q' q x' nd b h1 hn' hb (by rw [e]; exact hg))
  · intro q' x hx
    obtain ⟨x', h1, _⟩ := hback q' x hx
    exact hR.ok.used q' x' h1
  · rintro b ⟨q', x, h1, h2⟩
    obtain ⟨x', h3, _⟩ := hback q' x h1
    exact .inl ⟨q', x', h3, h2⟩
  · intro q1 q2 x y b h1 h2 h3 h4
    obtain ⟨x', h5, _⟩ := hback q1 x h1
    obtain ⟨y', h6, _⟩ := hback q2 y h2
    exact hR.ok.inj q1 q2 x' y' b h5 h6 h3 h4
theorem hard_mapUpdate (hT : TypesOK P cx) (hR : Rel st a m w0 O0 n) (hd : ∀ t, o.dst = some t → t < n ∧ O0.fx t = none) {t : TypeId} {x i y : Operand} (ho : o.op = .mapUpdate t x i y) (h : hardC cx st o K = some r) :
    ∃ st', K st' = some r ∧ HOp P o a m.w st' w0 O0 n := by
  simp only [hardC, ho] at h
  split at h
  · rename_i kt et hmp
    split at h
    · rename_i q he
      split at h
      · rename_i kk kv l hn
        split at h
        · rename_i hkk
          split at h
          · rename_i hkv
            split at h
            · rename_i k v hjk hjv
              subst hkk hkv
              have hx := evalS_sound hR x
              rw [he] at hx
              obtain ⟨h1, h2, b, h3, h4, h5⟩ := map_loc hR hn hx
              have hk := justVal_one (keyK_elem h1) hjk (evalS_sound hR i)
              have hv := justVal_one h2 hjv (evalS_sound hR y)
              have hrun := run_mput (P := P) (hT.mp t kt et hmp) (keyTy hT h1) h5 k v
              have hlt := lt_of_heap h5
              have hw : Frame0 m.w (fun c => c = b) { m.w with heap := m.w.heap.setIfInBounds b (mapObj (cx.kd kt) (cx.kd et) (mputT (cx.kd kt) (cx.kd et) l k v)) } :=
                ⟨rfl, ⟨rfl, fun _ => Nat.le_refl _⟩, rfl, by simp, fun c _ hc => by
                  show (m.w.heap.setIfInBounds b _)[c]? = _
                  rw [Array.getElem?_setIfInBounds_ne (fun e => hc e.symm)]⟩
              have hg : Blk (m.loc q) b := by rw [h4]; rfl
              have hR1 := hR.obj hn (nd' := .mp (cx.kd kt) (cx.kd et) (mputT (cx.kd kt) (cx.kd et) l k v)) ⟨rfl, rfl⟩ hg hw
                ⟨h1, h2, b, h4, by show (m.w.heap.setIfInBounds b _)[b]? = _; simp [hlt]⟩
              refine ⟨_, h, .skipd ?_ rfl (hR1.put o.dst hd (SRel.dead _ _))⟩
              simp [execOp, ho, h3, hk, hv, hrun, Result.andThen]
              rfl
            · cases h
          · cases h
        · cases h
      · cases h
    · cases h
  · cases h
end
end Go.Fm
