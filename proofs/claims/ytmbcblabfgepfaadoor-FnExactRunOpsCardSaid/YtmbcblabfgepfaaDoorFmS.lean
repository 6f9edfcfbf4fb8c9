/- The functional machine: appends and calls. -/
import Derived.Test.YtmbcblabfgepfaaDoorFmR
set_option autoImplicit true
set_option linter.unusedVariables false
set_option linter.unusedSimpArgs false
set_option linter.unusedSectionVars false
namespace Go.Fm
variable [Strict]

section
variable {P : Program} {cx : Ctx} {st st' : St} {a : Act} {m m' : Mem} {w0 : World} {O0 : OX} {n : Nat} {R : Type} {r : R} {G : World → Prop} {o : Oper} {K : St → Option R}

theorem append_core (hR : Rel st a m w0 O0 n) (hd : ∀ t, o.dst = some t → t < n ∧ O0.fx t = none) {te : TypeId} {e : Kind} {t : TypeId} (hel : cx.elem t = te)
    {nd1 : Nat → Option Node} {v : Value} {l mm : List e.T} {xs news : List Value}
    (hsub : ∀ q x, nd1 q = some x → m.nodes q = some x) (hrows : Rows (Cells m.w m.O e) xs l)
    (hF : ∀ b, blkOf v = some b → m.own b) (hrw : ∀ b, blkOf v = some b → RowB m b) (hkill : ∀ q x, nd1 q = some x → ∀ b, Blk (m.loc q) b → blkOf v ≠ some b)
    (hn : Rows (Cells m.w m.O e) news mm) {v' : Value} {w' : World} (hr : (execOp a.eval o).run P m.w = .ok (.value v') w') (k1 : w'.ownsRow 0 te (width e) v' (l.length + List.length mm) (xs ++ news)) (k2 : Frame0 m.w (fun b => blkOf v = some b) w') (k3 : ∀ b, blkOf v' = some b → blkOf v = some b ∨ m.w.heap.size ≤ b)
    (h : born o K { st with nodes := nd1 } (.row (cx.elem t) e (l ++ mm)) .root = some r) :
    ∃ st', K st' = some r ∧ HOpR P o a m st' w0 O0 n (RowB m) := by
  obtain ⟨st1, h3, h4⟩ := born_some h
  obtain ⟨e1, e2, e3, e4⟩ := make_some h3
  dsimp only at e1 e2 e3 e4
  have hu : m.used (fresh st.gen o.dst 0) = false := by rw [hR.used]; exact e1
  have hblk : ∀ b, Blk v' b → blkOf v' = some b := fun b hb => by
    obtain ⟨B, c, h7⟩ := ownsRow_slice k1
    rw [h7] at hb ⊢; exact hb
  have hT1 : Turn m (⟨w', upd nd1 (fresh st.gen o.dst 0) (some (.row (cx.elem t) e (l ++ mm))), upd m.used (fresh st.gen o.dst 0) true, upd m.loc (fresh st.gen o.dst 0) v', m.X⟩ : Mem) (fun b => blkOf v = some b) := by
    have hne : ∀ q, m.used q = true → q ≠ fresh st.gen o.dst 0 := fun q hq e => by rw [e, hu] at hq; cases hq
    refine ⟨rfl, hF, k2, fun q hq => ?_, fun q hq => ?_, fun q x hq hx => ?_, fun q x hq hx b hb => ?_⟩
    · simp [upd_other _ _ (hne q hq), hq]
    · simp [upd_other _ _ (hne q hq)]
    · dsimp only at hx
      rw [upd_other _ _ (hne q hq)] at hx
      exact ⟨hsub q x hx, hkill q x hx⟩
    · by_cases hqi : q = fresh st.gen o.dst 0
      · subst hqi
        simp only [upd_same] at hb
        exact k3 b (hblk b hb)
      · dsimp only at hx
        rw [upd_other _ _ hqi] at hx
        rw [hR.ok.used q x (hsub q x hx)] at hq; cases hq
  have hle1 := hT1.le hR.ok
  have hR1 : Rel st1 a ⟨w', upd nd1 (fresh st.gen o.dst 0) (some (.row (cx.elem t) e (l ++ mm))), upd m.used (fresh st.gen o.dst 0) true, upd m.loc (fresh st.gen o.dst 0) v', m.X⟩ w0 O0 n := by
    refine hT1.rel hR e4 e2.symm (by rw [e3, hR.used]) ?_ ?_
    · intro q x hq hx
      by_cases hqi : q = fresh st.gen o.dst 0
      · subst hqi
        simp only [upd_same] at hx ⊢
        cases hx
        refine ⟨trivial, xs ++ news, ?_, (Rows.append hrows hn).imp fun c x hc => hc.keep hle1.keep⟩
        simp only [upd_same]
        rw [hel]
        simpa using k1
      · dsimp only at hx
        rw [upd_other _ _ hqi] at hx
        rw [hR.ok.used q x (hsub q x hx)] at hq; cases hq
    · intro q q' x x' b hq hq' hx hx' _ _
      have key : ∀ q x, m.used q = false → upd nd1 (fresh st.gen o.dst 0) (some (.row (cx.elem t) e (l ++ mm))) q = some x → q = fresh st.gen o.dst 0 := fun q x hq hx => by
        by_cases hqi : q = fresh st.gen o.dst 0
        · exact hqi
        · rw [upd_other _ _ hqi] at hx
          rw [hR.ok.used q x (hsub q x hx)] at hq; cases hq
      rw [key q x hq hx, key q' x' hq' hx']
  have hform : ∃ B k c, v' = .slice B k c := by
    obtain ⟨B, c, h7, _⟩ := row_val k1
    exact ⟨B, _, c, h7⟩
  refine ⟨_, h4, .value ?_ rfl (hR1.put o.dst hd (u := v') ?_) ⟨k2.os, k2.tape, k2.output, k2.size, fun b hb hz => k2.block b hb fun hv => hz (hrw b hv)⟩ ?_⟩
  rotate_left 2
  · rintro b ⟨q, x', hq, hx', hb⟩
    dsimp only at hq hb
    by_cases hqi : q = fresh st.gen o.dst 0
    · subst hqi
      simp only [upd_same] at hb
      exact (k3 b (hblk b hb)).imp (hrw b) id
    · rw [upd_other _ _ hqi] at hq hb
      exact .inl ⟨q, x', hsub q _ hq, hx', hb⟩
  · exact hr
  · simp only [SRel, upd_same]
    exact ⟨trivial, hform, by simp⟩

theorem append_go (hT : TypesOK P cx) (hR : Rel st a m w0 O0 n) (hd : ∀ t, o.dst = some t → t < n ∧ O0.fx t = none) {t : TypeId} {e : Kind} (hk : cx.kd t = .slice e) {x y : Operand}
    (ho : o.op = .call { callee := .builtin .append, args := #[x, y], argTypes := #[t, t] }) {nd1 : Nat → Option Node} {v : Value} {l : List e.T} {xs : List Value}
    (hsub : ∀ q x, nd1 q = some x → m.nodes q = some x) (hown : m.w.ownsRow 0 (cx.elem t) (width e) v l.length xs) (hrows : Rows (Cells m.w m.O e) xs l) (hv : a.eval x = v)
    (hF : ∀ b, blkOf v = some b → m.own b) (hrw : ∀ b, blkOf v = some b → RowB m b) (hkill : ∀ q x, nd1 q = some x → ∀ b, Blk (m.loc q) b → blkOf v ≠ some b)
    {mm : List e.T} (hm0 : cond (notDeep (evalS st y)) (asVal nd1 8 (evalS st y) (.slice e)) none = some mm) (hle : l.length + List.length mm ≤ cx.most t) (h : born o K { st with nodes := nd1 } (.row (cx.elem t) e (l ++ mm)) .root = some r) :
    ∃ st', K st' = some r ∧ HOpR P o a m st' w0 O0 n (RowB m) := by
  obtain ⟨hndp, hm⟩ : notDeep (evalS st y) = true ∧ asVal nd1 8 (evalS st y) (.slice e) = some mm := by
    cases hb : notDeep (evalS st y) with
    | false => rw [hb, cond_false] at hm0; cases hm0
    | true => rw [hb, cond_true] at hm0; exact ⟨rfl, hm0⟩
  obtain ⟨st1, h3, h4⟩ := born_some h
  obtain ⟨te, g2, g3, g4, g5, g6, g7⟩ := kd_slice hT hk.symm
  obtain ⟨i, z, g8, g9, g10, g11, g12, g13⟩ := g4.ex
  have hel := hT.elem t te e g2 hk
  obtain ⟨i', g14, g15, g16, _⟩ := hT.most t te e g2 hk
  rw [g8] at g14; cases g14
  obtain ⟨A, cap, h5, h6⟩ := asVal_rows (m := m) hsub hR.ok.node 8 _ e mm _ hm hndp (evalS_sound hR y)
  rw [hel] at hown
  have hzs : z.cells.size = width e := by
    rw [← g9]
    have := g4.ex
    rw [← Array.length_toList, g11, g9]
    exact (show (zcells e).length = width e from by
      have hz2 : ∀ k : Kind, (zcells k).length = width k := by
        intro k
        induction k with
        | unit => rfl
        | int => rfl
        | bool => rfl
        | str => rfl
        | pair a b iha ihb => simp [zcells, width, iha, ihb]
        | struct a ih => simpa [zcells, width] using ih
        | slice e ih => rfl
        | arr n e ih => simp [zcells, width, ih]
        | clo g c ih => rfl
        | ref a ih => rfl
        | mpk a b iha ihb => rfl
        | mbx a b iha ihb => rfl
        | recB a b c ihc => rfl
        | err => rfl
        | fnk => rfl
      exact hz2 e)
  have hby : (l.length + List.length mm) * i.bytes ≤ 140737488355328 := Nat.le_trans (Nat.mul_le_mul_right _ hle) g15
  have hmx : l.length + List.length mm ≤ maxLen := Nat.le_trans hle g16
  -- what is appended
  obtain ⟨news, hn, hnr, hsrc⟩ : ∃ news, Rows (Cells m.w m.O e) news mm ∧ news.length = List.length mm * width e ∧
      (List.length mm = 0 ∨ ∃ b off blk ty' fr, A = some ⟨b, off, none⟩ ∧ m.w.heap[b]? = some (.cells blk ty' fr) ∧ blkOf v ≠ some b ∧ news = (blk.toList.drop off).take (List.length mm * width e)) := by
    rcases h6 with h6 | ⟨b, off, blk, ty, fr, h7, h8, h9, h10⟩
    · refine ⟨[], ?_, by simp [h6], .inl h6⟩
      have : mm = [] := List.eq_nil_of_length_eq_zero h6
      subst this; rfl
    · refine ⟨_, h10, h10.length (Cells.len e), .inr ⟨b, off, blk, ty, fr, h7, h8, ?_, rfl⟩⟩
      rcases h9 with h9 | ⟨q, x, h9, h11⟩
      · exact fun hb => h9 (.inl (hF b hb))
      · exact hkill q x h9 b h11
  have h1 : ∀ u ∈ news, u.oneCell' = true := fun u hu => by
    obtain ⟨c, x, _, h7, h8⟩ := hn.mem hu
    exact h7.one u h8
  obtain ⟨v', w', hr, k1, k2, k3⟩ := append_run (ty := o.type) (c := cap) g2 g8 g10 g9 hzs g6 hown hnr hsrc h1 hmx hby
  exact append_core hR hd hel hsub hrows hF hrw hkill hn (by simp [execOp, ho, resolve, invoke, builtin, hv, h5, hr]) k1 k2 k3 h
theorem append_strgo (hT : TypesOK P cx) (hR : Rel st a m w0 O0 n) (hd : ∀ t, o.dst = some t → t < n ∧ O0.fx t = none) {t t' : TypeId} (hk : cx.kd t = .slice (.int .u8)) (hk' : cx.kd t' = .str) (hmo : cx.most t = 140737488355328) {x y : Operand}
    (ho : o.op = .call { callee := .builtin .append, args := #[x, y], argTypes := #[t, t'] }) {nd1 : Nat → Option Node} {v : Value} {l : List Int} {xs : List Value} {s : ByteArray}
    (hsub : ∀ q x, nd1 q = some x → m.nodes q = some x) (hown : m.w.ownsRow 0 (cx.elem t) (width (.int .u8)) v l.length xs) (hrows : Rows (Cells m.w m.O (.int .u8)) xs l) (hv : a.eval x = v)
    (hF : ∀ b, blkOf v = some b → m.own b) (hrw : ∀ b, blkOf v = some b → RowB m b) (hkill : ∀ q x, nd1 q = some x → ∀ b, Blk (m.loc q) b → blkOf v ≠ some b)
    (hs : a.eval y = .string s) (hle : l.length + s.size ≤ cx.most t) (h : born o K { st with nodes := nd1 } (.row (cx.elem t) (.int .u8) (l ++ byteL s)) .root = some r) :
    ∃ st', K st' = some r ∧ HOpR P o a m st' w0 O0 n (RowB m) := by
  obtain ⟨te, g2, g3, g4, g5, g6, g7⟩ := kd_slice hT hk.symm
  obtain ⟨i, z, g8, g9, g10, g11, g12, g13⟩ := g4.ex
  have hel := hT.elem t te _ g2 hk
  obtain ⟨i', g14, g15, g16, g17⟩ := hT.most t te _ g2 hk
  rw [g8] at g14; cases g14
  have hu := kd_str hT hk'.symm
  have hb1 : i.bytes = 1 := by
    rw [hmo] at g15
    have : i.bytes ≤ 1 := by
      rcases Nat.lt_or_ge 1 i.bytes with h | h
      · have := Nat.mul_le_mul_left 140737488355328 (show 2 ≤ i.bytes from h)
        omega
      · exact h
    omega
  have hz1 : z = .int .u8 0 := by
    have h1 := g13 rfl
    have h2 : z.cells.toList = [.int .u8 0] := g11
    cases z <;> simp [Value.cells, Value.oneCell'] at h1 h2 ⊢ <;> exact h2
  rw [hz1] at g10
  rw [hel] at hown
  have hmx : l.length + s.size ≤ maxLen := Nat.le_trans hle g16
  obtain ⟨v', w', hr, k1, k2, k3⟩ := append_run_str (ty := o.type) g2 hu g8 g10 g9 hb1 hown s hmx (by omega)
  have hbl : (byteL s).length = s.size := by
    simp only [byteL, List.length_map, Array.length_toList]; rfl
  have hn : Rows (Cells m.w m.O (.int .u8)) (Lib.strCells s) (byteL s) := by
    unfold Lib.strCells byteL
    induction s.data.toList with
    | nil => rfl
    | cons b bs ih => exact ⟨[.int .u8 b.toNat], _, rfl, rfl, ih⟩
  exact append_core (te := te) hR hd hel hsub hrows hF hrw hkill hn (by simp [execOp, ho, resolve, invoke, builtin, hv, hs, hr]) (by rw [hbl]; exact k1) k2 k3 h
theorem zcells_len : ∀ k : Kind, (zcells k).length = width k := by
  intro k
  induction k with
  | unit => rfl
  | int => rfl
  | bool => rfl
  | str => rfl
  | pair a b iha ihb => simp [zcells, width, iha, ihb]
  | struct a ih => simpa [zcells, width] using ih
  | slice e ih => rfl
  | arr n e ih => simp [zcells, width, ih]
  | clo g c ih => rfl
  | ref a ih => rfl
  | mpk a b iha ihb => rfl
  | mbx a b iha ihb => rfl
  | recB a b c ihc => rfl
  | err => rfl
  | fnk => rfl
/-- a deep row behind another -/
theorem appendD_core (hT : TypesOK P cx) (hR : Rel st a m w0 O0 n) (hd : ∀ t, o.dst = some t → t < n ∧ O0.fx t = none) {t : TypeId} {e : Kind} (hk : cx.kd t = .slice e) {x y : Operand}
    (ho : o.op = .call { callee := .builtin .append, args := #[x, y], argTypes := #[t, t] }) {nd1 : Nat → Option Node} {ts : List Nat} {l1 l2 : List e.T} {d : Value} {r2 : Nat}
    (hsub : ∀ q x, nd1 q = some x → m.nodes q = some x) (hD : DeepR m.w m.O (cx.elem t) e ts d l1 (fun _ _ => False)) (hv : hdr d = some (a.eval x))
    (hF : ∀ b, Blk d b → RowB m b) (hkill : ∀ q x, nd1 q = some x → ∀ b, Blk (m.loc q) b → ¬ Blk d b) (h2 : nd1 r2 = none) (hn2 : m.nodes r2 = some (.deep (cx.elem t) e ts l2)) (hy : hdr (m.loc r2) = some (a.eval y)) (hX : ∀ b, Blk d b → ¬ Blk (m.loc r2) b)
    (hle : l1.length + l2.length ≤ cx.most t) (h : born o K { st with nodes := nd1 } (.deep (cx.elem t) e ts (l1 ++ l2)) .droot = some r) :
    ∃ st', K st' = some r ∧ HOpR P o a m st' w0 O0 n (RowB m) := by
  obtain ⟨st1, h3, h4⟩ := born_some h
  obtain ⟨te, g2, g3, g4, g5, g6, g7⟩ := kd_slice hT hk.symm
  obtain ⟨i, z, g8, g9, g10, g11, g12, g13⟩ := g4.ex
  have hel := hT.elem t te e g2 hk
  obtain ⟨i', g14, g15, g16, _⟩ := hT.most t te e g2 hk
  rw [g8] at g14; cases g14
  have hD2 : DeepR m.w m.O (cx.elem t) e ts (m.loc r2) l2 (fun _ _ => False) := hR.ok.node r2 _ hn2
  have hown2 : ∀ b, Blk (m.loc r2) b → RowB m b := fun b hb => ⟨r2, _, hn2, rfl, hb⟩
  have hRB : ∀ b, RowB m b → b < m.w.heap.size := fun b ⟨q, x, k1, _, k2⟩ => (hR.ok.node q x k1).blk_lt k2
  have hkill2 : ∀ q x, nd1 q = some x → ∀ b, Blk (m.loc q) b → ¬ Blk (m.loc r2) b := fun q x hq b hb hb2 => by
    have := hR.ok.inj q r2 _ _ b (hsub q x hq) hn2 hb hb2
    subst this
    rw [h2] at hq; cases hq
  generalize hd2 : m.loc r2 = d2 at *
  obtain ⟨u1, xs1, L1, rfl, hB, e1, o1, p1, q1, ap1⟩ := hD
  obtain ⟨u2, xs2, L2, rfl, _, e2, o2, p2, q2, ap2⟩ := hD2
  rw [hdr_mk] at hv hy
  have hv : u1 = a.eval x := Option.some.inj hv
  have hy : u2 = a.eval y := Option.some.inj hy
  obtain ⟨A1, c1, hA1⟩ := ownsRow_slice o1
  obtain ⟨A2, c2, hA2⟩ := ownsRow_slice o2
  have ht1 : ∀ c, u1 ≠ .tuple c := by rw [hA1]; simp
  have ht2 : ∀ c, u2 ≠ .tuple c := by rw [hA2]; simp
  obtain ⟨a', rfl, ha, _⟩ := deepB_struct hB
  have hlen2 : xs2.length = l2.length * width (.struct a') := o2.1
  have hsrc : l2.length = 0 ∨ ∃ b off blk ty' fr, A2 = some ⟨b, off, none⟩ ∧ m.w.heap[b]? = some (.cells blk ty' fr) ∧ blkOf u1 ≠ some b ∧ xs2 = (blk.toList.drop off).take (l2.length * width (.struct a')) := by
    rcases o2.2 with ⟨_, h5⟩ | ⟨g, cap, cur, h5, _, h6, _, _, _, h8⟩
    · exact .inl h5
    · refine .inr ⟨g, 0, cur, _, _, ?_, h6, fun hb => ?_, ?_⟩
      · rw [hA2] at h5; simp at h5; exact h5.1
      · exact hX g ((Blk_mk ht1).2 (.inl hb)) ((Blk_mk ht2).2 (.inl (by rw [h5]; rfl)))
      · rw [List.drop_zero, h8]
  have h1 : ∀ u ∈ xs2, u.oneCell' = true := fun u hu => by
    obtain ⟨c, p, _, h7, h8⟩ := p2.mem hu
    exact DS.one (show DS m.w m.O a' c p.1 p.2 from h7) u h8
  rw [hel] at o1
  have hby : (l1.length + l2.length) * i.bytes ≤ 140737488355328 := Nat.le_trans (Nat.mul_le_mul_right _ hle) g15
  have hzs : z.cells.size = width (.struct a') := by rw [← Array.length_toList, g11]; exact zcells_len _
  obtain ⟨v', w', hr, k1, k2, k3⟩ := append_run (P := P) (ty := o.type) (c := c2) g2 g8 g10 g9 hzs g6 o1 hlen2 hsrc h1 (Nat.le_trans hle g16) hby
  obtain ⟨m1e, m2e, m3e, m4e⟩ := make_some h3
  dsimp only at m1e m2e m3e m4e
  have hNu : m.used (fresh st.gen o.dst 0) = false := by rw [hR.used]; exact m1e
  obtain ⟨A', c', hA'⟩ := ownsRow_slice k1
  have ht' : ∀ c, v' ≠ .tuple c := by rw [hA']; simp
  have hold : ∀ b, b < m.w.heap.size → blkOf u1 ≠ some b → w'.heap[b]? = m.w.heap[b]? := fun b hb hne => k2.block b hb fun h => hne h
  -- the rows of the elements
  have hL1 : ∀ (ii jj : Nat) (p : (Kind.struct a').T × List Value) (u : Value) (b : Nat), L1[ii]? = some p → p.2[jj]? = some u → blkOf u = some b → Blk (mkLoc u1 (L1.map (·.2))) b := fun ii jj p u b j1 j2 j3 => Blk_prt (i := ii) (j := jj) (by rw [prt_mk, List.getElem?_map, j1]; exact j2) j3
  have hL2 : ∀ (ii jj : Nat) (p : (Kind.struct a').T × List Value) (u : Value) (b : Nat), L2[ii]? = some p → p.2[jj]? = some u → blkOf u = some b → Blk (mkLoc u2 (L2.map (·.2))) b := fun ii jj p u b j1 j2 j3 => Blk_prt (i := ii) (j := jj) (by rw [prt_mk, List.getElem?_map, j1]; exact j2) j3
  have hcase : ∀ (ii jj : Nat) (p : (Kind.struct a').T × List Value) (u : Value), (L1 ++ L2)[ii]? = some p → p.2[jj]? = some u → (ii < L1.length ∧ L1[ii]? = some p) ∨ (L1.length ≤ ii ∧ L2[ii - L1.length]? = some p) := fun ii jj p u j1 j2 => by
    by_cases hlt : ii < L1.length
    · exact .inl ⟨hlt, by rw [List.getElem?_append_left hlt] at j1; exact j1⟩
    · exact .inr ⟨by omega, by rw [List.getElem?_append_right (by omega)] at j1; exact j1⟩
  have hne1 : ∀ (ii jj : Nat) (p : (Kind.struct a').T × List Value) (u : Value) (b : Nat), (L1 ++ L2)[ii]? = some p → p.2[jj]? = some u → blkOf u = some b → blkOf u1 ≠ some b ∧ b < m.w.heap.size := fun ii jj p u b j1 j2 j3 => by
    rcases hcase ii jj p u j1 j2 with ⟨_, j4⟩ | ⟨_, j4⟩
    · exact ⟨fun hb => ap1.out ii jj p.2 u b (by rw [List.getElem?_map, j4]; rfl) j2 hb j3, hRB b (hF b (hL1 _ _ _ _ _ j4 j2 j3))⟩
    · exact ⟨fun hb => hX b ((Blk_mk ht1).2 (.inl hb)) (hL2 _ _ _ _ _ j4 j2 j3), hRB b (hown2 b (hL2 _ _ _ _ _ j4 j2 j3))⟩
  have hDn : ∀ O' : Nat → Prop, DeepR w' O' (cx.elem t) (.struct a') ts (mkLoc v' ((L1 ++ L2).map (·.2))) (l1 ++ l2) (fun _ _ => False) := fun O' => by
    refine DeepR.flat_any (w := w') (O := m.O) ⟨v', xs1 ++ xs2, L1 ++ L2, rfl, hB, by rw [List.map_append, ← e1, ← e2], by rw [hel, List.length_append]; exact k1, Rows.append (p1.imp fun c p hp => hp.flat_any hB) (p2.imp fun c p hp => hp.flat_any hB), ?_, ?_⟩
    · intro ii jj p u q ty j1 j2 j3 j4 _
      have hP : PartOK m.w m.O ty u q := by
        rcases hcase ii jj p u j1 j2 with ⟨_, j5⟩ | ⟨_, j5⟩
        · exact q1 _ jj p u q ty j5 j2 j3 j4 (fun h => h)
        · exact q2 _ jj p u q ty j5 j2 j3 j4 (fun h => h)
      obtain ⟨xs3, j6, j7⟩ := hP
      refine ⟨xs3, ownsRow_same j6 fun b hb => ?_, j7.imp fun c x hc => hc.flat_any' (parts_flat ha q (List.mem_of_getElem? j3))⟩
      obtain ⟨A3, c3, hA3⟩ := ownsRow_slice j6
      obtain ⟨j8, j9⟩ := hne1 ii jj p u b j1 j2 (by rw [hA3] at hb ⊢; exact hb)
      exact hold b j9 j8
    · constructor
      · intro ii jj us u b j1 j2 j3 j4
        rw [List.getElem?_map] at j1
        cases hp : (L1 ++ L2)[ii]? with
        | none => rw [hp] at j1; cases j1
        | some p =>
          rw [hp] at j1; cases j1
          obtain ⟨j8, j9⟩ := hne1 ii jj p u b hp j2 j4
          rcases k3 b j3 with j10 | j10
          · exact j8 j10
          · omega
      · intro ii jj ii' jj' us1 us2 u u' b j1 j2 j3 j4 j5 j6
        rw [List.getElem?_map] at j1 j3
        cases hp : (L1 ++ L2)[ii]? with
        | none => rw [hp] at j1; cases j1
        | some p =>
          cases hp' : (L1 ++ L2)[ii']? with
          | none => rw [hp'] at j3; cases j3
          | some p' =>
            rw [hp] at j1; cases j1
            rw [hp'] at j3; cases j3
            rcases hcase ii jj p u hp j2 with ⟨c1, c2⟩ | ⟨c1, c2⟩ <;> rcases hcase ii' jj' p' u' hp' j4 with ⟨c3, c4⟩ | ⟨c3, c4⟩
            · exact ap1.inn _ _ _ _ p.2 p'.2 u u' b (by rw [List.getElem?_map, c2]; rfl) j2 (by rw [List.getElem?_map, c4]; rfl) j4 j5 j6
            · exact (hX b (hL1 _ _ _ _ _ c2 j2 j5) (hL2 _ _ _ _ _ c4 j4 j6)).elim
            · exact (hX b (hL1 _ _ _ _ _ c4 j4 j6) (hL2 _ _ _ _ _ c2 j2 j5)).elim
            · have := ap2.inn _ _ _ _ p.2 p'.2 u u' b (by rw [List.getElem?_map, c2]; rfl) j2 (by rw [List.getElem?_map, c4]; rfl) j4 j5 j6
              omega
  have hblk : ∀ b, Blk (mkLoc v' ((L1 ++ L2).map (·.2))) b → (Blk (mkLoc u1 (L1.map (·.2))) b ∨ Blk (mkLoc u2 (L2.map (·.2))) b) ∨ m.w.heap.size ≤ b := fun b hb => by
    rcases (Blk_mk ht').1 hb with hb | ⟨us, hus, u, hu, hb⟩
    · rcases k3 b hb with hb | hb
      · exact .inl (.inl ((Blk_mk ht1).2 (.inl hb)))
      · exact .inr hb
    · obtain ⟨p, hp, rfl⟩ := List.mem_map.1 hus
      obtain ⟨ii, hii⟩ := List.mem_iff_getElem?.1 hp
      obtain ⟨jj, hjj⟩ := List.mem_iff_getElem?.1 hu
      rcases hcase ii jj p u hii hjj with ⟨_, c2⟩ | ⟨_, c2⟩
      · exact .inl (.inl (hL1 _ _ _ _ _ c2 hjj hb))
      · exact .inl (.inr (hL2 _ _ _ _ _ c2 hjj hb))
  let m1 : Mem := ⟨w', upd nd1 (fresh st.gen o.dst 0) (some (.deep (cx.elem t) (.struct a') ts (l1 ++ l2))), upd m.used (fresh st.gen o.dst 0) true, upd m.loc (fresh st.gen o.dst 0) (mkLoc v' ((L1 ++ L2).map (·.2))), m.X⟩
  have hne : ∀ q, m.used q = true → q ≠ fresh st.gen o.dst 0 := fun q hq e => by rw [e, hNu] at hq; cases hq
  have hRO : ∀ b, RowB m b → m.own b := fun b ⟨q, x, k1, _, k2⟩ => ⟨q, x, k1, k2⟩
  have hTn : Turn m m1 (fun b => Blk (mkLoc u1 (L1.map (·.2))) b ∨ Blk (mkLoc u2 (L2.map (·.2))) b) := {
    X := rfl
    free := by
      rintro b (hb | hb)
      · exact hRO b (hF b hb)
      · exact hRO b (hown2 b hb)
    frame := ⟨k2.os, k2.tape, k2.output, k2.size, fun b hb hz => k2.block b hb fun h => hz (.inl ((Blk_mk ht1).2 (.inl h)))⟩
    used := fun q hq => by simp [m1, upd_other _ _ (hne q hq), hq]
    loc := fun q hq => by simp [m1, upd_other _ _ (hne q hq)]
    old := fun q x hq hx => by
      simp only [m1, upd_other _ _ (hne q hq)] at hx
      refine ⟨hsub q x hx, fun b hb => ?_⟩
      rintro (hb2 | hb2)
      · exact hkill q x hx b hb hb2
      · exact hkill2 q x hx b hb hb2
    blk := fun q x hq hx b hb => by
      by_cases hqi : q = fresh st.gen o.dst 0
      · subst hqi
        simp only [m1, upd_same] at hb
        exact hblk b hb
      · simp only [m1, upd_other _ _ hqi] at hx
        rw [hR.ok.used q x (hsub q x hx)] at hq; cases hq }
  have honly : ∀ q x, m.used q = false → m1.nodes q = some x → q = fresh st.gen o.dst 0 ∧ x = .deep (cx.elem t) (.struct a') ts (l1 ++ l2) := fun q x hq hx => by
    by_cases hqi : q = fresh st.gen o.dst 0
    · subst hqi
      simp only [m1, upd_same, Option.some.injEq] at hx
      exact ⟨rfl, hx.symm⟩
    · simp only [m1, upd_other _ _ hqi] at hx
      rw [hR.ok.used q x (hsub q x hx)] at hq; cases hq
  have hR1 : Rel st1 a m1 w0 O0 n := hTn.rel hR m4e m2e.symm (by rw [m3e]; simp only [m1, hR.used]) (fun q x hq hx => by
      obtain ⟨rfl, rfl⟩ := honly q x hq hx
      refine ⟨by simp [m1, upd_same], ?_⟩
      show DeepR m1.w m1.O _ _ _ (m1.loc (fresh st.gen o.dst 0)) _ _
      rw [show m1.loc (fresh st.gen o.dst 0) = mkLoc v' ((L1 ++ L2).map (·.2)) by simp [m1, upd_same]]
      exact hDn _) (fun q q' x x' b hq hq' hx hx' _ _ => by rw [(honly q x hq hx).1, (honly q' x' hq' hx').1])
  have hslot : SRel m1 (.droot (fresh st.gen o.dst 0)) v' := by
    simp only [SRel, m1, upd_same, hdr_mk]
    exact ⟨trivial, trivial, A', _, c', hA'⟩
  refine ⟨_, h4, .value (w' := w') ?_ rfl (hR1.put o.dst hd hslot) ⟨k2.os, k2.tape, k2.output, k2.size, fun b hb hz => k2.block b hb fun hv => hz (hF b ((Blk_mk ht1).2 (.inl hv)))⟩ ?_⟩
  rotate_left
  · rintro b ⟨q, x', hq, hx', hb⟩
    by_cases hqi : q = fresh st.gen o.dst 0
    · subst hqi
      simp only [m1, upd_same] at hb
      rcases hblk b hb with (hb | hb) | hb
      · exact .inl (hF b hb)
      · exact .inl (hown2 b hb)
      · exact .inr hb
    · simp only [m1, upd_other _ _ hqi] at hq hb
      exact .inl ⟨q, x', hsub q _ hq, hx', hb⟩
  · have hy2 : a.eval y = .slice A2 l2.length c2 := by rw [← hy]; exact hA2
    simp [execOp, ho, resolve, invoke, builtin, ← hv, hy2, hr]
theorem hard_appendD (hT : TypesOK P cx) (hR : Rel st a m w0 O0 n) (hd : ∀ t, o.dst = some t → t < n ∧ O0.fx t = none) {t : TypeId} {e : Kind} (hk : cx.kd t = .slice e) {x y : Operand}
    (ho : o.op = .call { callee := .builtin .append, args := #[x, y], argTypes := #[t, t] }) {ts : List Nat} (h : appendD cx st o K t e ts (evalS st x) (evalS st y) = some r) :
    ∃ st', K st' = some r ∧ HOpR P o a m st' w0 O0 n (RowB m) := by
  have hx := evalS_sound hR x
  have hy := evalS_sound hR y
  unfold appendD at h
  split at h
  · rename_i r2 he2
    rw [he2] at hy; simp only [SRel] at hy
    split at h
    · rename_i ty2 e2 ts2 l2 hn2
      split at h
      · rename_i hty2
        split at h
        · rename_i hts2
          split at h
          · rename_i l2' hc2
            obtain ⟨hke, hl⟩ := cast?_some hc2
            cases hke
            dsimp only at hl; subst hl; subst hty2; subst hts2
            have hm2 : m.nodes r2 = some (.deep (cx.elem t) e ts2 l2) := by rw [hR.nodes]; exact hn2
            have hB : deepB e ts2 = true := by obtain ⟨_, _, _, _, hB, _⟩ := hR.deep hn2; exact hB
            split at h
            · rename_i he
              rw [he] at hx; simp only [SRel] at hx
              split at h
              · rename_i hle
                have hnb : ∀ b, ¬ Blk (mkLoc (Value.slice none 0 0) []) b := fun b hb => by
                  rcases (Blk_mk (by simp)).1 hb with hb | ⟨us, hus, _⟩
                  · simp [blkOf] at hb
                  · cases hus
                refine appendD_core hT hR hd hk ho (nd1 := upd st.nodes r2 none) (d := mkLoc (.slice none 0 0) []) (l1 := []) (fun q y hq => ?_) ?_ (by rw [hdr_mk, hx]) (fun b hb => absurd hb (hnb b)) (fun q y hq b _ => hnb b) (by simp [upd_same]) hm2 hy.2.1 (fun b hb => absurd hb (hnb b)) (by simpa using hle) h
                · by_cases hqq : q = r2
                  · subst hqq; simp [upd_same] at hq
                  · rw [hR.nodes]; simpa [upd_other _ _ hqq] using hq
                · refine ⟨.slice none 0 0, [], [], rfl, hB, rfl, World.ownsRow_nil _ _ _ _, rfl, fun _ _ _ _ _ _ h => by simp at h, ⟨fun _ _ _ _ _ h => by simp at h, fun _ _ _ _ _ _ _ _ _ h => by simp at h⟩⟩
              · cases h
            · rename_i r1 he
              rw [he] at hx; simp only [SRel] at hx
              split at h
              · rename_i ty1 e1 ts1 l1 hn1
                split at h
                · rename_i hty1
                  split at h
                  · rename_i hts1
                    split at h
                    · rename_i l1' hc1
                      obtain ⟨hke, hl⟩ := cast?_some hc1
                      cases hke
                      dsimp only at hl; subst hl; subst hty1; subst hts1
                      split at h
                      · rename_i hle
                        have hne : r1 ≠ r2 := fun e => by subst e; simp [upd_same] at hn1
                        have hn1' : st.nodes r1 = some (.deep (cx.elem t) e ts1 l1) := by simpa [upd_other _ _ hne] using hn1
                        have hm1 : m.nodes r1 = some (.deep (cx.elem t) e ts1 l1) := by rw [hR.nodes]; exact hn1'
                        have hs : ∀ q y, upd (upd st.nodes r2 none) r1 none q = some y → m.nodes q = some y ∧ q ≠ r1 ∧ q ≠ r2 := fun q y hq => by
                          by_cases hq1 : q = r1
                          · subst hq1; simp [upd_same] at hq
                          · rw [upd_other _ _ hq1] at hq
                            by_cases hq2 : q = r2
                            · subst hq2; simp [upd_same] at hq
                            · exact ⟨by rw [hR.nodes]; simpa [upd_other _ _ hq2] using hq, hq1, hq2⟩
                        exact appendD_core hT hR hd hk ho (nd1 := upd (upd st.nodes r2 none) r1 none) (d := m.loc r1) (fun q y hq => (hs q y hq).1) (hR.deep hn1') hx.2.1 (fun b hb => ⟨r1, _, hm1, rfl, hb⟩)
                          (fun q y hq b hb hb1 => (hs q y hq).2.1 (hR.ok.inj q r1 _ _ b (hs q y hq).1 hm1 hb hb1)) (by rw [upd_other _ _ (Ne.symm hne)]; simp [upd_same]) hm2 hy.2.1
                          (fun b hb hb2 => hne (hR.ok.inj r1 r2 _ _ b hm1 hm2 hb hb2)) hle h
                      · cases h
                    · cases h
                  · cases h
                · cases h
              · cases h
            · cases h
          · cases h
        · cases h
      · cases h
    · cases h
  · cases h
theorem ops_two {args : Array Operand} {x y : Operand} (h : args.toList = [x, y]) : args = #[x, y] := by
  apply Array.toList_inj.1; simpa using h
theorem tys_two {ts : Array TypeId} {x y : TypeId} (h : ts.toList = [x, y]) : ts = #[x, y] := by
  apply Array.toList_inj.1; simpa using h
theorem cut_loc {u0 : Value} {LL : List (List Value)} {i j : Nat} {us : List Value} (h0 : ∀ c, u0 ≠ .tuple c) (hi : LL[i]? = some us) (b : Nat) : Blk (mkLoc u0 (LL.set i (us.set j (.slice none 0 0)))) b ↔ HoleB (mkLoc u0 LL) i j b := by
  have hil := (List.getElem?_eq_some_iff.1 hi).1
  constructor
  · intro hb
    rcases (Blk_mk h0).1 hb with hb2 | ⟨us', hus', u, hu, hb2⟩
    · exact .inl ⟨u0, hdr_mk _ _, hb2⟩
    · obtain ⟨i', hi'⟩ := List.mem_iff_getElem?.1 hus'
      obtain ⟨j', hj'⟩ := List.mem_iff_getElem?.1 hu
      by_cases hii : i' = i
      · subst hii
        rw [List.getElem?_set_self hil] at hi'
        cases hi'
        by_cases hjj : j' = j
        · subst hjj
          have hlt := (List.getElem?_eq_some_iff.1 hj').1
          rw [List.getElem?_set_self (by simpa using hlt)] at hj'
          cases hj'
          simp [blkOf] at hb2
        · rw [List.getElem?_set_ne (Ne.symm hjj)] at hj'
          exact .inr ⟨i', j', u, fun h => hjj h.2, by rw [prt_mk, hi]; exact hj', hb2⟩
      · rw [List.getElem?_set_ne (Ne.symm hii)] at hi'
        exact .inr ⟨i', j', u, fun h => hii h.1, by rw [prt_mk, hi']; exact hj', hb2⟩
  · rintro (⟨u, h1, h2⟩ | ⟨i', j', u, h3, h1, h2⟩)
    · rw [hdr_mk] at h1; cases h1
      exact (Blk_mk h0).2 (.inl h2)
    · rw [prt_mk] at h1
      cases hL : LL[i']? with
      | none => rw [hL] at h1; cases h1
      | some us' =>
        rw [hL] at h1
        have h1 : us'[j']? = some u := h1
        by_cases hii : i' = i
        · subst hii
          rw [hi] at hL; cases hL
          have hjj : j' ≠ j := fun e => h3 ⟨rfl, e⟩
          exact (Blk_mk h0).2 (.inr ⟨_, List.mem_of_getElem? (List.getElem?_set_self hil), u, List.mem_of_getElem? (i := j') (by rw [List.getElem?_set_ne (Ne.symm hjj)]; exact h1), h2⟩)
        · exact (Blk_mk h0).2 (.inr ⟨us', List.mem_of_getElem? (i := i') (by rw [List.getElem?_set_ne (Ne.symm hii)]; exact hL), u, List.mem_of_getElem? h1, h2⟩)
theorem cut_apart {u0 : Value} {LL : List (List Value)} {i j : Nat} {us : List Value} (hi : LL[i]? = some us) (h : Apart u0 LL) : Apart u0 (LL.set i (us.set j (.slice none 0 0))) := by
  have hil := (List.getElem?_eq_some_iff.1 hi).1
  have back : ∀ (i' j' : Nat) (us' : List Value) (u : Value) (b : Nat), (LL.set i (us.set j (.slice none 0 0)))[i']? = some us' → us'[j']? = some u → blkOf u = some b → ∃ us2, LL[i']? = some us2 ∧ us2[j']? = some u := fun i' j' us' u b h1 h2 h3 => by
    by_cases hii : i' = i
    · subst hii
      rw [List.getElem?_set_self hil] at h1
      cases h1
      by_cases hjj : j' = j
      · subst hjj
        have hlt := (List.getElem?_eq_some_iff.1 h2).1
        rw [List.getElem?_set_self (by simpa using hlt)] at h2
        cases h2
        simp [blkOf] at h3
      · rw [List.getElem?_set_ne (Ne.symm hjj)] at h2
        exact ⟨us, hi, h2⟩
    · rw [List.getElem?_set_ne (Ne.symm hii)] at h1
      exact ⟨us', h1, h2⟩
  constructor
  · intro i' j' us' u b h1 h2 h3 h4
    obtain ⟨us2, k1, k2⟩ := back i' j' us' u b h1 h2 h4
    exact h.out i' j' us2 u b k1 k2 h3 h4
  · intro i1 j1 i2 j2 us1 us2 u1 u2 b h1 h2 h3 h4 h5 h6
    obtain ⟨vs1, k1, k2⟩ := back i1 j1 us1 u1 b h1 h2 h5
    obtain ⟨vs2, k3, k4⟩ := back i2 j2 us2 u2 b h3 h4 h6
    exact h.inn i1 j1 i2 j2 vs1 vs2 u1 u2 b k1 k2 k3 k4 h5 h6
/-- a row of an element is by itself: memory is as it was -/
theorem take_sound (hR : Rel st a m w0 O0 n) {d : Option Nat} {s : Nat} {st1 : St} (h : takeS st d s = some st1) : ∃ m1, m1.w = m.w ∧ Rel st1 a m1 w0 O0 n ∧ ∀ b, RowB m1 b → RowB m b := by
  unfold takeS at h
  split at h
  · rename_i q i f j hst
    split at h
    · rename_i ty e ts l hn
      split at h
      · rename_i e' v ty' hpart hty
        split at h
        · rename_i st2 hmk1
          split at h
          · rename_i st3 hmk2
            simp only [Option.some.injEq] at h
            subst h
            have hsp := hR.slot s
            rw [hst] at hsp
            simp only [SRel] at hsp
            obtain ⟨hqu, h0, hprt, hsl⟩ := hsp
            generalize hu : a.tmps.getD s undef = u at hprt hsl
            have hD := hR.deep hn
            have hB : deepB e ts = true := by obtain ⟨_, _, _, _, hB, _⟩ := hD; exact hB
            obtain ⟨a2, rfl, ha, _⟩ := deepB_struct hB
            obtain ⟨hil, ty2, hty2, hpok⟩ := part_get hD h0 hprt hpart
            rw [hty] at hty2; cases hty2
            have hfe : flat e' = true := parts_flat ha _ (List.mem_of_getElem? (show (partsP a2 _)[j]? = some ⟨e', v⟩ from hpart))
            have hn' : m.nodes q = some (.deep ty (.struct a2) ts l) := by rw [hR.nodes]; exact hn
            obtain ⟨hm1, hm2, hm3, hm4⟩ := make_some hmk1
            obtain ⟨hk1, hk2, hk3, hk4⟩ := make_some hmk2
            dsimp only at hm1 hm2 hm3 hm4
            generalize hN : fresh st.gen d 15 = N at hmk1 hm1 hm2 hm3 ⊢
            generalize hN2 : fresh st.gen d 14 = N2 at hmk2 hk1 hk2 hk3 ⊢
            have hNu : m.used N = false := by rw [hR.used]; exact hm1
            have hNN : N2 ≠ N := fun e => by rw [e, hm3, upd_same] at hk1; cases hk1
            have hN2u : m.used N2 = false := by
              rw [hm3, upd_other _ _ hNN] at hk1
              rw [hR.used]; exact hk1
            have hqN : q ≠ N := fun e => by rw [e] at hqu; rw [hqu] at hNu; cases hNu
            have hqN2 : q ≠ N2 := fun e => by rw [e] at hqu; rw [hqu] at hN2u; cases hN2u
            obtain ⟨A, nn, cc, hus⟩ := hsl
            have hublk : ∀ b, Blk u b ↔ blkOf u = some b := fun b => by rw [hus]
            have huq : ∀ b, blkOf u = some b → Blk (m.loc q) b := fun b hb => Blk_prt hprt hb
            -- the place of what is left
            obtain ⟨vh, hvh, hvb, hvn⟩ : ∃ vh, hdr vh = hdr (m.loc q) ∧ (∀ b, Blk vh b ↔ HoleB (m.loc q) i.toNat j b) ∧ (blks vh).Nodup := by
              obtain ⟨u0, xs, L, g1, g2, g3, g4, g5, g6, g7⟩ := hD
              obtain ⟨A', c', hA'⟩ := ownsRow_slice g4
              rw [g1, prt_mk] at hprt
              cases hL : (L.map (·.2))[i.toNat]? with
              | none => rw [hL] at hprt; cases hprt
              | some us => exact ⟨mkLoc u0 ((L.map (·.2)).set i.toNat (us.set j (.slice none 0 0))), by rw [g1, hdr_mk, hdr_mk], fun b => by rw [g1]; exact cut_loc (by rw [hA']; simp) hL b, (cut_apart hL g7).nodup (by rw [hA']; simp)⟩
            have hvq : ∀ b, Blk vh b → Blk (m.loc q) b := fun b hb => by
              rcases (hvb b).1 hb with ⟨u0, k1, k2⟩ | ⟨i', j', u', _, k1, k2⟩
              · obtain ⟨A', c', hA'⟩ := hD.hdr
                rw [hA'] at k1; cases k1
                exact Blk_hdr hA' (by simp) k2
              · exact Blk_prt k1 k2
            have hsep : ∀ b, Blk vh b → blkOf u ≠ some b := fun b hb hub => by
              obtain ⟨u1, xs1, L1, g1, g2, g3, g4, g5, g6, g7⟩ := hD
              have hb := (hvb b).1 hb
              rw [g1] at hb hprt
              rw [prt_mk] at hprt
              cases hL : (L1.map (·.2))[i.toNat]? with
              | none => rw [hL] at hprt; cases hprt
              | some us =>
                rw [hL] at hprt
                rcases hb with ⟨u0, k1, k2⟩ | ⟨i', j', u', k0, k1, k2⟩
                · rw [hdr_mk] at k1; cases k1
                  exact g7.out i.toNat j us u b hL hprt k2 hub
                · rw [prt_mk] at k1
                  cases hL' : (L1.map (·.2))[i']? with
                  | none => rw [hL'] at k1; cases k1
                  | some us' =>
                    rw [hL'] at k1
                    exact k0 (g7.inn i' j' i.toNat j us' us u' u b hL' k1 hL hprt k2 hub)
            let m1 : Mem := ⟨m.w, upd (upd (upd m.nodes q none) N (some (.row ty' e' v))) N2 (some (.hole ty (.struct a2) ts l i j)), upd (upd m.used N true) N2 true, upd (upd m.loc N u) N2 vh, m.X⟩
            have hl1 : m1.loc N = u := by simp only [m1, upd_other _ _ (Ne.symm hNN), upd_same]
            have hl2 : m1.loc N2 = vh := by simp only [m1, upd_same]
            have hm1n : ∀ q' x, m1.nodes q' = some x → (q' = N ∧ x = .row ty' e' v) ∨ (q' = N2 ∧ x = .hole ty (.struct a2) ts l i j) ∨ (q' ≠ N ∧ q' ≠ N2 ∧ q' ≠ q ∧ m.nodes q' = some x) := fun q' x hx => by
              by_cases h2 : q' = N2
              · subst h2
                simp only [m1, upd_same, Option.some.injEq] at hx
                exact .inr (.inl ⟨rfl, hx.symm⟩)
              · simp only [m1, upd_other _ _ h2] at hx
                by_cases h1 : q' = N
                · subst h1
                  simp only [upd_same, Option.some.injEq] at hx
                  exact .inl ⟨rfl, hx.symm⟩
                · rw [upd_other _ _ h1] at hx
                  by_cases h3 : q' = q
                  · subst h3; simp [upd_same] at hx
                  · rw [upd_other _ _ h3] at hx
                    exact .inr (.inr ⟨h1, h2, h3, hx⟩)
            have hTn : Turn m m1 (fun b => Blk (m.loc q) b) := {
              X := rfl
              free := fun b hb => ⟨q, _, hn', hb⟩
              frame := ⟨rfl, ⟨rfl, fun _ => Nat.le_refl _⟩, rfl, Nat.le_refl _, fun _ _ _ => rfl⟩
              used := fun q' hq' => by
                by_cases h2 : q' = N2
                · subst h2; simp [m1, upd_same]
                · by_cases h1 : q' = N
                  · subst h1; simp [m1, upd_other _ _ h2, upd_same]
                  · simpa [m1, upd_other _ _ h2, upd_other _ _ h1] using hq'
              loc := fun q' hq' => by
                have h1 : q' ≠ N := fun e => by subst e; rw [hNu] at hq'; cases hq'
                have h2 : q' ≠ N2 := fun e => by subst e; rw [hN2u] at hq'; cases hq'
                simp [m1, upd_other _ _ h2, upd_other _ _ h1]
              old := fun q' x hq' hx => by
                rcases hm1n q' x hx with ⟨rfl, _⟩ | ⟨rfl, _⟩ | ⟨_, _, h3, h4⟩
                · rw [hNu] at hq'; cases hq'
                · rw [hN2u] at hq'; cases hq'
                · exact ⟨h4, fun b hb hb2 => h3 (hR.ok.inj q' q _ _ b h4 hn' hb hb2)⟩
              blk := fun q' x hq' hx b hb => by
                rcases hm1n q' x hx with ⟨rfl, _⟩ | ⟨rfl, _⟩ | ⟨_, _, h3, h4⟩
                · rw [hl1] at hb; exact .inl (huq b ((hublk b).1 hb))
                · rw [hl2] at hb; exact .inl (hvq b hb)
                · have := hR.ok.used q' x h4
                  rw [hq'] at this; cases this }
            have hR1 : Rel { st3 with slots := st.slots } a m1 w0 O0 n := hTn.rel hR rfl (by show m1.nodes = st3.nodes; rw [hk2, hm2]; simp only [m1, hR.nodes]) (by show m1.used = st3.used; rw [hk3, hm3]; simp only [m1, hR.used]) (fun q' x hq' hx => by
                rcases hm1n q' x hx with ⟨rfl, rfl⟩ | ⟨rfl, rfl⟩ | ⟨_, _, h3, h4⟩
                · refine ⟨by simp [m1, upd_other _ _ (Ne.symm hNN), upd_same], ?_⟩
                  obtain ⟨ys, k1, k2⟩ := hpok
                  exact ⟨ys, by rw [hl1]; exact k1, k2.imp fun c x hc => hc.flat_any' hfe⟩
                · refine ⟨by simp [m1, upd_same], m.loc q, ?_, by rw [hl2]; exact hvh, fun b => by rw [hl2]; exact hvb b, by rw [hl2]; exact hvn⟩
                  refine DeepR.keep (w := m.w) (O := fun _ => True) ⟨fun _ _ _ => rfl, fun _ _ _ => trivial⟩ (fun _ _ h => h.elim) (fun _ _ _ _ => rfl) (fun _ _ _ _ _ _ _ => rfl) hD.flat_any
                · have := hR.ok.used q' x h4
                  rw [hq'] at this; cases this) (fun q1 q2 x1 x2 b hu1 hu2 hx1 hx2 hb1 hb2 => by
                rcases hm1n q1 x1 hx1 with ⟨rfl, rfl⟩ | ⟨rfl, rfl⟩ | ⟨_, _, h3, h4⟩ <;> rcases hm1n q2 x2 hx2 with ⟨e2, rfl⟩ | ⟨e2, rfl⟩ | ⟨_, _, h5, h6⟩
                · exact e2.symm
                · subst e2; rw [hl1] at hb1; rw [hl2] at hb2
                  exact absurd ((hublk b).1 hb1) (hsep b hb2)
                · have := hR.ok.used q2 x2 h6; rw [hu2] at this; cases this
                · subst e2; rw [hl2] at hb1; rw [hl1] at hb2
                  exact absurd ((hublk b).1 hb2) (hsep b hb1)
                · exact e2.symm
                · have := hR.ok.used q2 x2 h6; rw [hu2] at this; cases this
                · have := hR.ok.used q1 x1 h4; rw [hu1] at this; cases this
                · have := hR.ok.used q1 x1 h4; rw [hu1] at this; cases this
                · have := hR.ok.used q1 x1 h4; rw [hu1] at this; cases this)
            have hR2 := hR1.rend (q := q) (N := N2) (by simp [m1, upd_same]) (by rw [hl2, hTn.loc q hqu]; exact hvh)
            refine ⟨m1, rfl, ⟨hR2.nodes, hR2.used, hR2.ok, fun t' => ?_, hR2.defers, hR2.size, hR2.fixed⟩, fun b hb => ?_⟩
            · show SRel m1 (upd (fun t => rend q N2 (st3.slots t)) s (.root N) t') _
              by_cases ht : t' = s
              · subst ht
                rw [upd_same, hu]
                simp only [SRel]
                exact ⟨by simp [m1, upd_other _ _ (Ne.symm hNN), upd_same], ⟨A, nn, cc, hus⟩, fun _ _ _ _ => hl1.symm⟩
              · rw [upd_other _ _ ht, hk4, hm4]
                exact hR2.slot t'
            · obtain ⟨q', x, hx, hx1, hb⟩ := hb
              rcases hm1n q' x hx with ⟨rfl, rfl⟩ | ⟨rfl, rfl⟩ | ⟨h1, h2, h3, h4⟩
              · rw [hl1] at hb; exact ⟨q, _, hn', rfl, huq b ((hublk b).1 hb)⟩
              · rw [hl2] at hb; exact ⟨q, _, hn', rfl, hvq b hb⟩
              · refine ⟨q', x, h4, hx1, ?_⟩
                simpa only [m1, upd_other _ _ h2, upd_other _ _ h1] using hb
          · cases h
        · cases h
      · cases h
    · cases h
  · cases h
theorem HOpR.from {m1 : Mem} (hw : m1.w = m.w) (hr : ∀ b, RowB m1 b → RowB m b) (h : HOpR P o a m1 st' w0 O0 n (RowB m1)) : HOpR P o a m st' w0 O0 n (RowB m) := by
  intro next Q hn
  have := h next Q fun a' m' hR' hf hrw => hn a' m' hR' (by rw [← hw]; exact ⟨hf.os, hf.tape, hf.output, hf.size, fun b hb hz => hf.block b hb fun hz' => hz (hr b hz')⟩) fun b hb => by
    rw [← hw]; exact (hrw b hb).imp (hr b) id
  rw [hw] at this
  exact this
theorem hard_appendS (hT : TypesOK P cx) (hR : Rel st a m w0 O0 n) (hd : ∀ t, o.dst = some t → t < n ∧ O0.fx t = none) {t : TypeId} {e : Kind} (hk : cx.kd t = .slice e) {x y : Operand}
    (ho : o.op = .call { callee := .builtin .append, args := #[x, y], argTypes := #[t, t] }) (h : appendS cx st o K t e (evalS st x) (evalS st y) = some r) :
    ∃ st', K st' = some r ∧ HOpR P o a m st' w0 O0 n (RowB m) := by
  unfold appendS at h
  simp only [appendGo] at h
  have hx := evalS_sound hR x
  split at h
  · rename_i he
    rw [he] at hx; simp only [SRel] at hx
    split at h
    · rename_i mm hmm
      split at h
      · rename_i hle
        exact append_go hT hR hd hk ho (nd1 := st.nodes) (l := ([] : List e.T)) (fun q x h => by rw [hR.nodes]; exact h) (World.ownsRow_nil m.w 0 (cx.elem t) (width e)) rfl hx (fun b hb => by simp [blkOf] at hb) (fun b hb => by simp [blkOf] at hb)
          (fun q x h b hb => by simp [blkOf]) hmm hle h
      · cases h
    · cases h
  · rename_i q he
    split at h
    · rename_i ty e' l hn
      split at h
      · rename_i hty
        split at h
        · rename_i l' hc
          obtain ⟨hke, hl⟩ := cast?_some hc
          cases hke
          dsimp only at hl; subst hl
          split at h
          · rename_i mm hmm
            split at h
            · rename_i hle
              rw [he] at hx; simp only [SRel] at hx
              have hn' : m.nodes q = some (.row ty e l) := by rw [hR.nodes]; exact hn
              obtain ⟨xs, h1, h2⟩ := row_loc hR hn
              rw [hty] at h1
              have hsub : ∀ q' x, upd st.nodes q none q' = some x → m.nodes q' = some x ∧ q' ≠ q := fun q' x h => by
                by_cases hq : q' = q
                · subst hq; simp [upd_same] at h
                · rw [upd_other _ _ hq] at h; exact ⟨by rw [hR.nodes]; exact h, hq⟩
              refine append_go hT hR hd hk ho (nd1 := upd st.nodes q none) (l := l) (fun q' x h => (hsub q' x h).1) h1 h2 (hx.2.2 ty e l hn') (fun b hb => ⟨q, _, hn', (own_blk h1).2 hb⟩) (fun b hb => ⟨q, _, hn', rfl, (own_blk h1).2 hb⟩) ?_ hmm hle h
              intro q' x' h3 b h4 h5
              exact (hsub q' x' h3).2 (hR.ok.inj q' q x' _ b (hsub q' x' h3).1 hn' h4 ((own_blk h1).2 h5))
            · cases h
          · cases h
        · cases h
      · cases h
    · cases h
  · cases h
theorem hard_append (hT : TypesOK P cx) (hR : Rel st a m w0 O0 n) (hd : ∀ t, o.dst = some t → t < n ∧ O0.fx t = none) {args : Array Operand} {ts : Array TypeId}
    (ho : o.op = .call { callee := .builtin .append, args := args, argTypes := ts }) (h : hardC cx st o K = some r) : ∃ st', K st' = some r ∧ HOpR P o a m st' w0 O0 n (RowB m) := by
  simp only [hardC, ho] at h
  split at h
  · rename_i x y t t' ha ht
    have := ops_two ha; subst this
    have := tys_two ht; subst this
    split at h
    · rename_i htt; subst htt
      split at h
      · rename_i e hk
        cases hdp : cx.dp t with
        | some tss => 
          simp only [hdp] at h
          exact hard_appendD hT hR hd hk ho h
        | none =>
        simp only [hdp] at h
        split at h
        · rename_i s
          cases hpt : isPart (st.slots s) with
          | true =>
            rw [hpt, cond_true] at h
            cases hds : o.dst.any (Nat.beq s) with
            | true => rw [hds, cond_true] at h; cases h
            | false =>
            rw [hds, cond_false] at h
            split at h
            · rename_i st1 htk
              obtain ⟨m1, hw1, hR1, hr1⟩ := take_sound hR htk
              obtain ⟨st', k1, k2⟩ := hard_appendS hT hR1 hd hk ho h
              exact ⟨st', k1, k2.from hw1 hr1⟩
            · cases h
          | false =>
            rw [hpt, cond_false] at h
            exact hard_appendS hT hR hd hk ho h
        · exact hard_appendS hT hR hd hk ho h
      · cases h
    · -- a text
      split at h
      · rename_i s hk hk' he
        have hy := evalS_sound hR y
        rw [he] at hy; simp only [SRel] at hy
        have hys := hy.str_inv
        unfold appendT at h
        cases hmo : Nat.beq (cx.most t) 140737488355328 with
        | false => rw [hmo] at h; cases h
        | true =>
        rw [hmo, cond_true] at h
        have hmo' := Nat.eq_of_beq_eq_true hmo
        have hx := evalS_sound hR x
        split at h
        · rename_i he
          rw [he] at hx; simp only [SRel] at hx
          split at h
          · rename_i hle
            exact append_strgo hT hR hd hk hk' hmo' ho (nd1 := st.nodes) (l := []) (fun q x h => by rw [hR.nodes]; exact h) (World.ownsRow_nil m.w 0 (cx.elem t) _) rfl hx (fun b hb => by simp [blkOf] at hb) (fun b hb => by simp [blkOf] at hb)
              (fun q x h b hb => by simp [blkOf]) hys hle h
          · cases h
        · rename_i q he
          split at h
          · rename_i ty e' l hn
            split at h
            · rename_i hty
              split at h
              · rename_i l' hc
                obtain ⟨hke, hl⟩ := cast?_some hc
                cases hke
                dsimp only at hl; subst hl
                split at h
                · rename_i hle
                  rw [he] at hx; simp only [SRel] at hx
                  have hn' : m.nodes q = some (.row ty (.int .u8) l) := by rw [hR.nodes]; exact hn
                  obtain ⟨xs, h1, h2⟩ := row_loc hR hn
                  rw [hty] at h1
                  have hsub : ∀ q' x, upd st.nodes q none q' = some x → m.nodes q' = some x ∧ q' ≠ q := fun q' x h => by
                    by_cases hq : q' = q
                    · subst hq; simp [upd_same] at h
                    · rw [upd_other _ _ hq] at h; exact ⟨by rw [hR.nodes]; exact h, hq⟩
                  refine append_strgo hT hR hd hk hk' hmo' ho (nd1 := upd st.nodes q none) (l := l) (fun q' x h => (hsub q' x h).1) h1 h2 (hx.2.2 ty _ l hn') (fun b hb => ⟨q, _, hn', (own_blk h1).2 hb⟩) (fun b hb => ⟨q, _, hn', rfl, (own_blk h1).2 hb⟩) ?_ hys hle h
                  intro q' x' h3 b h4 h5
                  exact (hsub q' x' h3).2 (hR.ok.inj q' q x' _ b (hsub q' x' h3).1 hn' h4 ((own_blk h1).2 h5))
                · cases h
              · cases h
            · cases h
          · cases h
        · cases h
      · cases h
  · cases h
/-- clear of a part of a row -/
theorem zeroCells_list (z : Array Value) (n : Nat) : (Builtin.zeroCells z n).toList = (List.replicate n z.toList).flatten := made_cells z z.size n rfl
theorem hard_clear (hT : TypesOK P cx) (hR : Rel st a m w0 O0 n) (hd : ∀ t, o.dst = some t → t < n ∧ O0.fx t = none) {args : Array Operand} {ts : Array TypeId}
    (ho : o.op = .call { callee := .builtin .clear, args := args, argTypes := ts }) (h : hardC cx st o K = some r) : ∃ st', K st' = some r ∧ HOp P o a m.w st' w0 O0 n := by
  simp only [hardC, ho] at h
  split at h
  · rename_i x t ha ht
    have hargs : args = #[x] := by apply Array.toList_inj.1; simpa using ha
    have hts : ts = #[t] := by apply Array.toList_inj.1; simpa using ht
    subst hargs; subst hts
    split at h
    · rename_i e q lo hi hk he
      split at h
      · rename_i ty e' l hn
        split at h
        · rename_i hee
          subst hee
          cases hwf : (wfB e).1 with
          | false => simp [hwf] at h
          | true =>
            simp only [hwf, cond_true] at h
            have hx := evalS_sound hR x
            rw [he] at hx
            simp only [SRel] at hx
            have hn' : m.nodes q = some (.row ty e l) := by rw [hR.nodes]; exact hn
            obtain ⟨k0, k1, k2, A, c, k3, k4, k5, _⟩ := hx.2 ty e l hn'
            obtain ⟨te, g2, g3, g4, g5, g6, g7⟩ := kd_slice hT hk.symm
            obtain ⟨z, z1, z2, z3, z4⟩ := g4.zero
            obtain ⟨xs, h6, h7⟩ := row_loc hR hn
            have hzc := Cells_zero (w := m.w) (O := m.O) e (.inl hwf)
            by_cases hlt : lo < hi
            · obtain ⟨g, n1, cap1, k6, rfl⟩ := k5 hlt
              rcases h6.2 with ⟨h8, _⟩ | ⟨g', cap', cur, h8, _, h9, h10, h11, h12, h13⟩
              · rw [k6] at h8; simp at h8
              · rw [k6] at h8; simp at h8; obtain ⟨rfl, rfl, rfl⟩ := h8
                have hxl : xs.length = l.length * width e := h6.1
                have hlo : lo.toNat * width e + (hi - lo).toNat * width e = hi.toNat * width e := by rw [← Nat.add_mul]; congr 1; omega
                have hle : hi.toNat * width e ≤ l.length * width e := Nat.mul_le_mul_right _ (by omega)
                have hcap : l.length * width e ≤ cap1 * width e := Nat.mul_le_mul_right _ h10
                generalize hzs : (List.replicate (hi - lo).toNat (zcells e)).flatten = zs
                have hzl : zs.length = (hi - lo).toNat * width e := by
                  have := (Rows.replicate (P := Cells m.w m.O e) hzc (hi - lo).toNat).length (Cells.len e)
                  rw [hzs] at this; simpa using this
                have hz1 : ∀ u ∈ zs, u.oneCell' = true := by
                  rw [← hzs]
                  intro u hu
                  obtain ⟨c1, h1, h2⟩ := List.mem_flatten.1 hu
                  rw [List.eq_of_mem_replicate h1] at h2
                  exact hzc.one u h2
                have hst := run_storeCells_at P g (lo.toNat * width e) ty zs 0 cur m.w h9 (by rw [h12, Nat.add_zero]; omega) hz1
                simp only [Nat.add_zero] at hst
                have hzcl : (Builtin.zeroCells z.cells (hi - lo).toNat).toList = zs := by rw [zeroCells_list, z2, hzs]
                obtain ⟨d, hdn⟩ : ∃ d, (hi - lo).toNat = d + 1 := ⟨(hi - lo).toNat - 1, by omega⟩
                have hrun : (execOp a.eval o).run P m.w = .ok (.value (.tuple #[])) (m.w.setRow g (cur.toList.take (lo.toNat * width e) ++ zs ++ cur.toList.drop (lo.toNat * width e + zs.length)).toArray) := by
                  rw [hdn] at k3 hzcl
                  simp [execOp, ho, resolve, invoke, builtin, k3, Builtin.clear_, run_underlying g2, z1, hzcl, hst]
                have hshape : shape (.row ty e l) (.row ty e (clrT e l lo hi)) := ⟨rfl, rfl, by simp [clrT]; omega⟩
                have hle2 := set_le hn' hshape (g := g) (by rw [k6]; rfl) (cur.toList.take (lo.toNat * width e) ++ zs ++ cur.toList.drop (lo.toNat * width e + zs.length)).toArray
                have hrows : Rows (Cells m.w m.O e) (xs.take (lo.toNat * width e) ++ (zs ++ xs.drop (hi.toNat * width e))) (clrT e l lo hi) := by
                  unfold clrT
                  refine (Rows.take (Cells.len e) lo.toNat h7).append (Rows.append ?_ (Rows.drop (Cells.len e) hi.toNat h7))
                  rw [← hzs]
                  exact Rows.replicate hzc _
                have hnode : NodeRel (m.set (m.w.setRow g (cur.toList.take (lo.toNat * width e) ++ zs ++ cur.toList.drop (lo.toNat * width e + zs.length)).toArray) q (.row ty e (clrT e l lo hi))) q (.row ty e (clrT e l lo hi)) := by
                  have hclen : (clrT e l lo hi).length = l.length := by simp [clrT]; omega
                  refine ⟨_, ?_, hrows.imp fun c x hc => hc.keep hle2.keep⟩
                  refine ⟨?_, .inr ⟨g, cap1, _, by rw [hclen]; simp [Mem.set, k6], by simp, setRow_heap m.w g cur _ ty (0, 0) h9, by rw [hclen]; exact h10, h11, ?_, ?_⟩⟩
                  · rw [hclen, ← hxl]
                    simp only [List.length_append, List.length_take, List.length_drop, hzl, hxl]
                    omega
                  · simp only [List.size_toArray, List.length_append, List.length_take, List.length_drop, Array.length_toList, hzl, h12]
                    omega
                  · show List.take _ (cur.toList.take (lo.toNat * width e) ++ zs ++ cur.toList.drop (lo.toNat * width e + zs.length)) = _
                    rw [hclen, hzl, hlo, ← h13, List.take_take, Nat.min_eq_left (by omega : lo.toNat * width e ≤ l.length * width e), List.drop_take, List.append_assoc]
                    have e1 : (cur.toList.take (lo.toNat * width e)).length = lo.toNat * width e := by simp only [List.length_take, Array.length_toList, h12]; omega
                    have e2 : (cur.toList.take (lo.toNat * width e) ++ zs).length = hi.toNat * width e := by rw [List.length_append, e1, hzl, hlo]
                    rw [← List.append_assoc, List.take_append, e2, List.take_of_length_le (by omega), List.append_assoc]
                have hR2 := hR.set (nd' := .row ty e (clrT e l lo hi)) hn hshape (g := g) (by rw [k6]; rfl) _ hnode
                exact ⟨_, h, .value hrun rfl (hR2.put o.dst hd (SRel.dead _ _))⟩
            · have hlh : lo = hi := by omega
              have hc0 : clrT e l lo hi = l := by
                subst hlh
                simp [clrT]
              have h0 : (hi - lo).toNat = 0 := by omega
              have hrun : (execOp a.eval o).run P m.w = .ok (.value (.tuple #[])) m.w := by
                rw [h0] at k3
                cases A <;> simp [execOp, ho, resolve, invoke, builtin, k3, Builtin.clear_, run_underlying g2]
              have hst : st.setNode q (some (.row ty e l)) = st := by
                unfold St.setNode
                have : upd st.nodes q (some (.row ty e l)) = st.nodes := by
                  funext p
                  by_cases hp : p = q
                  · subst hp; rw [upd_same, hn]
                  · rw [upd_other _ _ hp]
                rw [this]
              rw [hc0, hst] at h
              exact ⟨_, h, .value hrun rfl (hR.put o.dst hd (SRel.dead _ _))⟩
        · cases h
      · cases h
    · cases h
  · cases h
end
end Go.Fm
