/- The functional machine: appends and calls. -/
import Derived.Test.YtobkiheihjdanaaDoorFmR
set_option autoImplicit true
set_option linter.unusedVariables false
set_option linter.unusedSimpArgs false
set_option linter.unusedSectionVars false
namespace Go.Fm
variable [Strict]

section
variable {P : Program} {cx : Ctx} {st st' : St} {a : Act} {m m' : Mem} {w0 : World} {O0 : OX} {n : Nat} {R : Type} {r : R} {G : World → Prop} {o : Oper} {K : St → Option R}

theorem append_core (hR : Rel st a m w0 O0 n) (hd : ∀ t, o.dst = some t → t < n ∧ O0.fx t = none) {te : TypeId} {e : Kind} {t : TypeId} (hel : cx.elem t = te)
    {nd1 : Nat → Option Node} {v : Value} {l mm : List e.T} {xs news : List Value}
    (hsub : ∀ q x, nd1 q = some x → m.nodes q = some x) (hrows : Rows (Cells m.w m.O e) xs l)
    (hF : ∀ b, blkOf v = some b → m.own b) (hrw : ∀ b, blkOf v = some b → RowB m b) (hkill : ∀ q x, nd1 q = some x → ∀ b, blkOf (m.loc q) = some b → blkOf v ≠ some b)
    (hn : Rows (Cells m.w m.O e) news mm) {v' : Value} {w' : World} (hr : (execOp a.eval o).run P m.w = .ok (.value v') w') (k1 : w'.ownsRow 0 te (width e) v' (l.length + List.length mm) (xs ++ news)) (k2 : Frame0 m.w (fun b => blkOf v = some b) w') (k3 : ∀ b, blkOf v' = some b → blkOf v = some b ∨ m.w.heap.size ≤ b)
    (h : born o K { st with nodes := nd1 } (.row (cx.elem t) e (l ++ mm)) .root = some r) :
    ∃ st', K st' = some r ∧ HOpR P o a m st' w0 O0 n (RowB m) := by
  obtain ⟨st1, h3, h4⟩ := born_some h
  obtain ⟨e1, e2, e3, e4⟩ := make_some h3
  dsimp only at e1 e2 e3 e4
  have hu : m.used (fresh st.gen o.dst 0) = false := by rw [hR.used]; exact e1
  have hT1 : Turn m (⟨w', upd nd1 (fresh st.gen o.dst 0) (some (.row (cx.elem t) e (l ++ mm))), upd m.used (fresh st.gen o.dst 0) true, upd m.loc (fresh st.gen o.dst 0) v', m.X⟩ : Mem) (fun b => blkOf v = some b) := by
    have hne : ∀ q, m.used q = true → q ≠ fresh st.gen o.dst 0 := fun q hq e => by rw [e, hu] at hq; cases hq
    refine ⟨rfl, hF, k2, fun q hq => ?_, fun q hq => ?_, fun q x hq hx => ?_, fun q x hq hx b hb => ?_⟩
    · simp [upd_other _ _ (hne q hq), hq]
    · simp [upd_other _ _ (hne q hq)]
    · dsimp only at hx
      rw [upd_other _ _ (hne q hq)] at hx
      exact ⟨hsub q x hx, hkill q x hx⟩
    · by_cases hqi : q = fresh st.gen o.dst 0
      · subst hqi
        simp only [upd_same] at hb
        exact k3 b hb
      · dsimp only at hx
        rw [upd_other _ _ hqi] at hx
        rw [hR.ok.used q x (hsub q x hx)] at hq; cases hq
  have hle1 := hT1.le hR.ok
  have hR1 : Rel st1 a ⟨w', upd nd1 (fresh st.gen o.dst 0) (some (.row (cx.elem t) e (l ++ mm))), upd m.used (fresh st.gen o.dst 0) true, upd m.loc (fresh st.gen o.dst 0) v', m.X⟩ w0 O0 n := by
    refine hT1.rel hR e4 e2.symm (by rw [e3, hR.used]) ?_ ?_
    · intro q x hq hx
      by_cases hqi : q = fresh st.gen o.dst 0
      · subst hqi
        simp only [upd_same] at hx ⊢
        cases hx
        refine ⟨trivial, xs ++ news, ?_, (Rows.append hrows hn).imp fun c x hc => hc.keep hle1.keep⟩
        simp only [upd_same]
        rw [hel]
        simpa using k1
      · dsimp only at hx
        rw [upd_other _ _ hqi] at hx
        rw [hR.ok.used q x (hsub q x hx)] at hq; cases hq
    · intro q q' x x' b hq hq' hx hx' _ _
      have key : ∀ q x, m.used q = false → upd nd1 (fresh st.gen o.dst 0) (some (.row (cx.elem t) e (l ++ mm))) q = some x → q = fresh st.gen o.dst 0 := fun q x hq hx => by
        by_cases hqi : q = fresh st.gen o.dst 0
        · exact hqi
        · rw [upd_other _ _ hqi] at hx
          rw [hR.ok.used q x (hsub q x hx)] at hq; cases hq
      rw [key q x hq hx, key q' x' hq' hx']
  have hform : ∃ B k c, v' = .slice B k c := by
    obtain ⟨B, c, h7, _⟩ := row_val k1
    exact ⟨B, _, c, h7⟩
  refine ⟨_, h4, .value ?_ rfl (hR1.put o.dst hd (u := v') ?_) ⟨k2.os, k2.tape, k2.output, k2.size, fun b hb hz => k2.block b hb fun hv => hz (hrw b hv)⟩ ?_⟩
  rotate_left 2
  · rintro b ⟨q, ty, e', l', hq, hb⟩
    dsimp only at hq hb
    by_cases hqi : q = fresh st.gen o.dst 0
    · subst hqi
      simp only [upd_same] at hb
      exact (k3 b hb).imp (hrw b) id
    · rw [upd_other _ _ hqi] at hq hb
      exact .inl ⟨q, ty, e', l', hsub q _ hq, hb⟩
  · exact hr
  · simp only [SRel, upd_same]
    exact ⟨trivial, hform, by simp⟩

theorem append_go (hT : TypesOK P cx) (hR : Rel st a m w0 O0 n) (hd : ∀ t, o.dst = some t → t < n ∧ O0.fx t = none) {t : TypeId} {e : Kind} (hk : cx.kd t = .slice e) {x y : Operand}
    (ho : o.op = .call { callee := .builtin .append, args := #[x, y], argTypes := #[t, t] }) {nd1 : Nat → Option Node} {v : Value} {l : List e.T} {xs : List Value}
    (hsub : ∀ q x, nd1 q = some x → m.nodes q = some x) (hown : m.w.ownsRow 0 (cx.elem t) (width e) v l.length xs) (hrows : Rows (Cells m.w m.O e) xs l) (hv : a.eval x = v)
    (hF : ∀ b, blkOf v = some b → m.own b) (hrw : ∀ b, blkOf v = some b → RowB m b) (hkill : ∀ q x, nd1 q = some x → ∀ b, blkOf (m.loc q) = some b → blkOf v ≠ some b)
    {mm : List e.T} (hm : asVal nd1 8 (evalS st y) (.slice e) = some mm) (hle : l.length + List.length mm ≤ cx.most t) (h : born o K { st with nodes := nd1 } (.row (cx.elem t) e (l ++ mm)) .root = some r) :
    ∃ st', K st' = some r ∧ HOpR P o a m st' w0 O0 n (RowB m) := by
  obtain ⟨st1, h3, h4⟩ := born_some h
  obtain ⟨te, g2, g3, g4, g5, g6, g7⟩ := kd_slice hT hk.symm
  obtain ⟨i, z, g8, g9, g10, g11, g12, g13⟩ := g4.ex
  have hel := hT.elem t te e g2 hk
  obtain ⟨i', g14, g15, g16, _⟩ := hT.most t te e g2 hk
  rw [g8] at g14; cases g14
  obtain ⟨A, cap, h5, h6⟩ := asVal_rows (m := m) hsub hR.ok.node 8 _ e mm _ hm (evalS_sound hR y)
  rw [hel] at hown
  have hzs : z.cells.size = width e := by
    rw [← g9]
    have := g4.ex
    rw [← Array.length_toList, g11, g9]
    exact (show (zcells e).length = width e from by
      have hz2 : ∀ k : Kind, (zcells k).length = width k := by
        intro k
        induction k with
        | unit => rfl
        | int => rfl
        | bool => rfl
        | str => rfl
        | pair a b iha ihb => simp [zcells, width, iha, ihb]
        | struct a ih => simpa [zcells, width] using ih
        | slice e ih => rfl
        | arr n e ih => simp [zcells, width, ih]
        | clo g c ih => rfl
        | ref a ih => rfl
      exact hz2 e)
  have hby : (l.length + List.length mm) * i.bytes ≤ 140737488355328 := Nat.le_trans (Nat.mul_le_mul_right _ hle) g15
  have hmx : l.length + List.length mm ≤ maxLen := Nat.le_trans hle g16
  -- what is appended
  obtain ⟨news, hn, hnr, hsrc⟩ : ∃ news, Rows (Cells m.w m.O e) news mm ∧ news.length = List.length mm * width e ∧
      (List.length mm = 0 ∨ ∃ b off blk ty' fr, A = some ⟨b, off, none⟩ ∧ m.w.heap[b]? = some (.cells blk ty' fr) ∧ blkOf v ≠ some b ∧ news = (blk.toList.drop off).take (List.length mm * width e)) := by
    rcases h6 with h6 | ⟨b, off, blk, ty, fr, h7, h8, h9, h10⟩
    · refine ⟨[], ?_, by simp [h6], .inl h6⟩
      have : mm = [] := List.eq_nil_of_length_eq_zero h6
      subst this; rfl
    · refine ⟨_, h10, h10.length (Cells.len e), .inr ⟨b, off, blk, ty, fr, h7, h8, ?_, rfl⟩⟩
      rcases h9 with h9 | ⟨q, x, h9, h11⟩
      · exact fun hb => h9 (.inl (hF b hb))
      · exact hkill q x h9 b h11
  have h1 : ∀ u ∈ news, u.oneCell' = true := fun u hu => by
    obtain ⟨c, x, _, h7, h8⟩ := hn.mem hu
    exact h7.one u h8
  obtain ⟨v', w', hr, k1, k2, k3⟩ := append_run (ty := o.type) (c := cap) g2 g8 g10 g9 hzs g6 hown hnr hsrc h1 hmx hby
  exact append_core hR hd hel hsub hrows hF hrw hkill hn (by simp [execOp, ho, resolve, invoke, builtin, hv, h5, hr]) k1 k2 k3 h
theorem append_strgo (hT : TypesOK P cx) (hR : Rel st a m w0 O0 n) (hd : ∀ t, o.dst = some t → t < n ∧ O0.fx t = none) {t t' : TypeId} (hk : cx.kd t = .slice (.int .u8)) (hk' : cx.kd t' = .str) (hmo : cx.most t = 140737488355328) {x y : Operand}
    (ho : o.op = .call { callee := .builtin .append, args := #[x, y], argTypes := #[t, t'] }) {nd1 : Nat → Option Node} {v : Value} {l : List Int} {xs : List Value} {s : ByteArray}
    (hsub : ∀ q x, nd1 q = some x → m.nodes q = some x) (hown : m.w.ownsRow 0 (cx.elem t) (width (.int .u8)) v l.length xs) (hrows : Rows (Cells m.w m.O (.int .u8)) xs l) (hv : a.eval x = v)
    (hF : ∀ b, blkOf v = some b → m.own b) (hrw : ∀ b, blkOf v = some b → RowB m b) (hkill : ∀ q x, nd1 q = some x → ∀ b, blkOf (m.loc q) = some b → blkOf v ≠ some b)
    (hs : a.eval y = .string s) (hle : l.length + s.size ≤ cx.most t) (h : born o K { st with nodes := nd1 } (.row (cx.elem t) (.int .u8) (l ++ byteL s)) .root = some r) :
    ∃ st', K st' = some r ∧ HOpR P o a m st' w0 O0 n (RowB m) := by
  obtain ⟨te, g2, g3, g4, g5, g6, g7⟩ := kd_slice hT hk.symm
  obtain ⟨i, z, g8, g9, g10, g11, g12, g13⟩ := g4.ex
  have hel := hT.elem t te _ g2 hk
  obtain ⟨i', g14, g15, g16, g17⟩ := hT.most t te _ g2 hk
  rw [g8] at g14; cases g14
  have hu := kd_str hT hk'.symm
  have hb1 : i.bytes = 1 := by
    rw [hmo] at g15
    have : i.bytes ≤ 1 := by
      rcases Nat.lt_or_ge 1 i.bytes with h | h
      · have := Nat.mul_le_mul_left 140737488355328 (show 2 ≤ i.bytes from h)
        omega
      · exact h
    omega
  have hz1 : z = .int .u8 0 := by
    have h1 := g13 rfl
    have h2 : z.cells.toList = [.int .u8 0] := g11
    cases z <;> simp [Value.cells, Value.oneCell'] at h1 h2 ⊢ <;> exact h2
  rw [hz1] at g10
  rw [hel] at hown
  have hmx : l.length + s.size ≤ maxLen := Nat.le_trans hle g16
  obtain ⟨v', w', hr, k1, k2, k3⟩ := append_run_str (ty := o.type) g2 hu g8 g10 g9 hb1 hown s hmx (by omega)
  have hbl : (byteL s).length = s.size := by
    simp only [byteL, List.length_map, Array.length_toList]; rfl
  have hn : Rows (Cells m.w m.O (.int .u8)) (Lib.strCells s) (byteL s) := by
    unfold Lib.strCells byteL
    induction s.data.toList with
    | nil => rfl
    | cons b bs ih => exact ⟨[.int .u8 b.toNat], _, rfl, rfl, ih⟩
  exact append_core (te := te) hR hd hel hsub hrows hF hrw hkill hn (by simp [execOp, ho, resolve, invoke, builtin, hv, hs, hr]) (by rw [hbl]; exact k1) k2 k3 h
theorem ops_two {args : Array Operand} {x y : Operand} (h : args.toList = [x, y]) : args = #[x, y] := by
  apply Array.toList_inj.1; simpa using h
theorem tys_two {ts : Array TypeId} {x y : TypeId} (h : ts.toList = [x, y]) : ts = #[x, y] := by
  apply Array.toList_inj.1; simpa using h
theorem hard_append (hT : TypesOK P cx) (hR : Rel st a m w0 O0 n) (hd : ∀ t, o.dst = some t → t < n ∧ O0.fx t = none) {args : Array Operand} {ts : Array TypeId}
    (ho : o.op = .call { callee := .builtin .append, args := args, argTypes := ts }) (h : hardC cx st o K = some r) : ∃ st', K st' = some r ∧ HOpR P o a m st' w0 O0 n (RowB m) := by
  simp only [hardC, ho] at h
  split at h
  · rename_i x y t t' ha ht
    have := ops_two ha; subst this
    have := tys_two ht; subst this
    split at h
    · rename_i htt; subst htt
      split at h
      · rename_i e hk
        unfold appendS at h
        simp only [appendGo] at h
        have hx := evalS_sound hR x
        split at h
        · rename_i he
          rw [he] at hx; simp only [SRel] at hx
          split at h
          · rename_i mm hmm
            split at h
            · rename_i hle
              exact append_go hT hR hd hk ho (nd1 := st.nodes) (l := ([] : List e.T)) (fun q x h => by rw [hR.nodes]; exact h) (World.ownsRow_nil m.w 0 (cx.elem t) (width e)) rfl hx (fun b hb => by simp [blkOf] at hb) (fun b hb => by simp [blkOf] at hb)
                (fun q x h b hb => by simp [blkOf]) hmm hle h
            · cases h
          · cases h
        · rename_i q he
          split at h
          · rename_i ty e' l hn
            split at h
            · rename_i hty
              split at h
              · rename_i l' hc
                obtain ⟨hke, hl⟩ := cast?_some hc
                cases hke
                dsimp only at hl; subst hl
                split at h
                · rename_i mm hmm
                  split at h
                  · rename_i hle
                    rw [he] at hx; simp only [SRel] at hx
                    have hn' : m.nodes q = some (.row ty e l) := by rw [hR.nodes]; exact hn
                    obtain ⟨xs, h1, h2⟩ := row_loc hR hn
                    rw [hty] at h1
                    have hsub : ∀ q' x, upd st.nodes q none q' = some x → m.nodes q' = some x ∧ q' ≠ q := fun q' x h => by
                      by_cases hq : q' = q
                      · subst hq; simp [upd_same] at h
                      · rw [upd_other _ _ hq] at h; exact ⟨by rw [hR.nodes]; exact h, hq⟩
                    refine append_go hT hR hd hk ho (nd1 := upd st.nodes q none) (l := l) (fun q' x h => (hsub q' x h).1) h1 h2 (hx.2.2 ty e l hn') (fun b hb => ⟨q, _, hn', hb⟩) (fun b hb => ⟨q, ty, e, l, hn', hb⟩) ?_ hmm hle h
                    intro q' x' h3 b h4 h5
                    exact (hsub q' x' h3).2 (hR.ok.inj q' q x' _ b (hsub q' x' h3).1 hn' h4 h5)
                  · cases h
                · cases h
              · cases h
            · cases h
          · cases h
        · cases h
      · cases h
    · -- a text
      split at h
      · rename_i s hk hk' he
        have hy := evalS_sound hR y
        rw [he] at hy; simp only [SRel] at hy
        have hys := hy.str_inv
        unfold appendT at h
        cases hmo : Nat.beq (cx.most t) 140737488355328 with
        | false => rw [hmo] at h; cases h
        | true =>
        rw [hmo, cond_true] at h
        have hmo' := Nat.eq_of_beq_eq_true hmo
        have hx := evalS_sound hR x
        split at h
        · rename_i he
          rw [he] at hx; simp only [SRel] at hx
          split at h
          · rename_i hle
            exact append_strgo hT hR hd hk hk' hmo' ho (nd1 := st.nodes) (l := []) (fun q x h => by rw [hR.nodes]; exact h) (World.ownsRow_nil m.w 0 (cx.elem t) _) rfl hx (fun b hb => by simp [blkOf] at hb) (fun b hb => by simp [blkOf] at hb)
              (fun q x h b hb => by simp [blkOf]) hys hle h
          · cases h
        · rename_i q he
          split at h
          · rename_i ty e' l hn
            split at h
            · rename_i hty
              split at h
              · rename_i l' hc
                obtain ⟨hke, hl⟩ := cast?_some hc
                cases hke
                dsimp only at hl; subst hl
                split at h
                · rename_i hle
                  rw [he] at hx; simp only [SRel] at hx
                  have hn' : m.nodes q = some (.row ty (.int .u8) l) := by rw [hR.nodes]; exact hn
                  obtain ⟨xs, h1, h2⟩ := row_loc hR hn
                  rw [hty] at h1
                  have hsub : ∀ q' x, upd st.nodes q none q' = some x → m.nodes q' = some x ∧ q' ≠ q := fun q' x h => by
                    by_cases hq : q' = q
                    · subst hq; simp [upd_same] at h
                    · rw [upd_other _ _ hq] at h; exact ⟨by rw [hR.nodes]; exact h, hq⟩
                  refine append_strgo hT hR hd hk hk' hmo' ho (nd1 := upd st.nodes q none) (l := l) (fun q' x h => (hsub q' x h).1) h1 h2 (hx.2.2 ty _ l hn') (fun b hb => ⟨q, _, hn', hb⟩) (fun b hb => ⟨q, ty, _, l, hn', hb⟩) ?_ hys hle h
                  intro q' x' h3 b h4 h5
                  exact (hsub q' x' h3).2 (hR.ok.inj q' q x' _ b (hsub q' x' h3).1 hn' h4 h5)
                · cases h
              · cases h
            · cases h
          · cases h
        · cases h
      · cases h
  · cases h
/-- clear of a part of a row -/
theorem zeroCells_list (z : Array Value) (n : Nat) : (Builtin.zeroCells z n).toList = (List.replicate n z.toList).flatten := made_cells z z.size n rfl
theorem hard_clear (hT : TypesOK P cx) (hR : Rel st a m w0 O0 n) (hd : ∀ t, o.dst = some t → t < n ∧ O0.fx t = none) {args : Array Operand} {ts : Array TypeId}
    (ho : o.op = .call { callee := .builtin .clear, args := args, argTypes := ts }) (h : hardC cx st o K = some r) : ∃ st', K st' = some r ∧ HOp P o a m.w st' w0 O0 n := by
  simp only [hardC, ho] at h
  split at h
  · rename_i x t ha ht
    have hargs : args = #[x] := by apply Array.toList_inj.1; simpa using ha
    have hts : ts = #[t] := by apply Array.toList_inj.1; simpa using ht
    subst hargs; subst hts
    split at h
    · rename_i e q lo hi hk he
      split at h
      · rename_i ty e' l hn
        split at h
        · rename_i hee
          subst hee
          cases hwf : (wfB e).1 with
          | false => simp [hwf] at h
          | true =>
            simp only [hwf, cond_true] at h
            have hx := evalS_sound hR x
            rw [he] at hx
            simp only [SRel] at hx
            have hn' : m.nodes q = some (.row ty e l) := by rw [hR.nodes]; exact hn
            obtain ⟨k0, k1, k2, A, c, k3, k4, k5, _⟩ := hx.2 ty e l hn'
            obtain ⟨te, g2, g3, g4, g5, g6, g7⟩ := kd_slice hT hk.symm
            obtain ⟨z, z1, z2, z3, z4⟩ := g4.zero
            obtain ⟨xs, h6, h7⟩ := row_loc hR hn
            have hzc := Cells_zero (w := m.w) (O := m.O) e (.inl hwf)
            by_cases hlt : lo < hi
            · obtain ⟨g, n1, cap1, k6, rfl⟩ := k5 hlt
              rcases h6.2 with ⟨h8, _⟩ | ⟨g', cap', cur, h8, _, h9, h10, h11, h12, h13⟩
              · rw [k6] at h8; simp at h8
              · rw [k6] at h8; simp at h8; obtain ⟨rfl, rfl, rfl⟩ := h8
                have hxl : xs.length = l.length * width e := h6.1
                have hlo : lo.toNat * width e + (hi - lo).toNat * width e = hi.toNat * width e := by rw [← Nat.add_mul]; congr 1; omega
                have hle : hi.toNat * width e ≤ l.length * width e := Nat.mul_le_mul_right _ (by omega)
                have hcap : l.length * width e ≤ cap1 * width e := Nat.mul_le_mul_right _ h10
                generalize hzs : (List.replicate (hi - lo).toNat (zcells e)).flatten = zs
                have hzl : zs.length = (hi - lo).toNat * width e := by
                  have := (Rows.replicate (P := Cells m.w m.O e) hzc (hi - lo).toNat).length (Cells.len e)
                  rw [hzs] at this; simpa using this
                have hz1 : ∀ u ∈ zs, u.oneCell' = true := by
                  rw [← hzs]
                  intro u hu
                  obtain ⟨c1, h1, h2⟩ := List.mem_flatten.1 hu
                  rw [List.eq_of_mem_replicate h1] at h2
                  exact hzc.one u h2
                have hst := run_storeCells_at P g (lo.toNat * width e) ty zs 0 cur m.w h9 (by rw [h12, Nat.add_zero]; omega) hz1
                simp only [Nat.add_zero] at hst
                have hzcl : (Builtin.zeroCells z.cells (hi - lo).toNat).toList = zs := by rw [zeroCells_list, z2, hzs]
                obtain ⟨d, hdn⟩ : ∃ d, (hi - lo).toNat = d + 1 := ⟨(hi - lo).toNat - 1, by omega⟩
                have hrun : (execOp a.eval o).run P m.w = .ok (.value (.tuple #[])) (m.w.setRow g (cur.toList.take (lo.toNat * width e) ++ zs ++ cur.toList.drop (lo.toNat * width e + zs.length)).toArray) := by
                  rw [hdn] at k3 hzcl
                  simp [execOp, ho, resolve, invoke, builtin, k3, Builtin.clear_, run_underlying g2, z1, hzcl, hst]
                have hshape : shape (.row ty e l) (.row ty e (clrT e l lo hi)) := ⟨rfl, rfl, by simp [clrT]; omega⟩
                have hle2 := set_le hn' hshape (g := g) (by rw [k6]; rfl) (cur.toList.take (lo.toNat * width e) ++ zs ++ cur.toList.drop (lo.toNat * width e + zs.length)).toArray
                have hrows : Rows (Cells m.w m.O e) (xs.take (lo.toNat * width e) ++ (zs ++ xs.drop (hi.toNat * width e))) (clrT e l lo hi) := by
                  unfold clrT
                  refine (Rows.take (Cells.len e) lo.toNat h7).append (Rows.append ?_ (Rows.drop (Cells.len e) hi.toNat h7))
                  rw [← hzs]
                  exact Rows.replicate hzc _
                have hnode : NodeRel (m.set (m.w.setRow g (cur.toList.take (lo.toNat * width e) ++ zs ++ cur.toList.drop (lo.toNat * width e + zs.length)).toArray) q (.row ty e (clrT e l lo hi))) q (.row ty e (clrT e l lo hi)) := by
                  have hclen : (clrT e l lo hi).length = l.length := by simp [clrT]; omega
                  refine ⟨_, ?_, hrows.imp fun c x hc => hc.keep hle2.keep⟩
                  refine ⟨?_, .inr ⟨g, cap1, _, by rw [hclen]; simp [Mem.set, k6], by simp, setRow_heap m.w g cur _ ty (0, 0) h9, by rw [hclen]; exact h10, h11, ?_, ?_⟩⟩
                  · rw [hclen, ← hxl]
                    simp only [List.length_append, List.length_take, List.length_drop, hzl, hxl]
                    omega
                  · simp only [List.size_toArray, List.length_append, List.length_take, List.length_drop, Array.length_toList, hzl, h12]
                    omega
                  · show List.take _ (cur.toList.take (lo.toNat * width e) ++ zs ++ cur.toList.drop (lo.toNat * width e + zs.length)) = _
                    rw [hclen, hzl, hlo, ← h13, List.take_take, Nat.min_eq_left (by omega : lo.toNat * width e ≤ l.length * width e), List.drop_take, List.append_assoc]
                    have e1 : (cur.toList.take (lo.toNat * width e)).length = lo.toNat * width e := by simp only [List.length_take, Array.length_toList, h12]; omega
                    have e2 : (cur.toList.take (lo.toNat * width e) ++ zs).length = hi.toNat * width e := by rw [List.length_append, e1, hzl, hlo]
                    rw [← List.append_assoc, List.take_append, e2, List.take_of_length_le (by omega), List.append_assoc]
                have hR2 := hR.set (nd' := .row ty e (clrT e l lo hi)) hn hshape (g := g) (by rw [k6]; rfl) _ hnode
                exact ⟨_, h, .value hrun rfl (hR2.put o.dst hd (SRel.dead _ _))⟩
            · have hlh : lo = hi := by omega
              have hc0 : clrT e l lo hi = l := by
                subst hlh
                simp [clrT]
              have h0 : (hi - lo).toNat = 0 := by omega
              have hrun : (execOp a.eval o).run P m.w = .ok (.value (.tuple #[])) m.w := by
                rw [h0] at k3
                cases A <;> simp [execOp, ho, resolve, invoke, builtin, k3, Builtin.clear_, run_underlying g2]
              have hst : st.setNode q (some (.row ty e l)) = st := by
                unfold St.setNode
                have : upd st.nodes q (some (.row ty e l)) = st.nodes := by
                  funext p
                  by_cases hp : p = q
                  · subst hp; rw [upd_same, hn]
                  · rw [upd_other _ _ hp]
                rw [this]
              rw [hc0, hst] at h
              exact ⟨_, h, .value hrun rfl (hR.put o.dst hd (SRel.dead _ _))⟩
        · cases h
      · cases h
    · cases h
  · cases h
end
end Go.Fm
