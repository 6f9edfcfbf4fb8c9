/- The functional machine: appends. -/
import Derived.Lib.AppendStr
import Derived.Test.YtmbcblabfgepfaaDoorFmQ
import Derived.Test.YtmbcblabfgepfaaDoorFmTn
set_option autoImplicit true
set_option linter.unusedVariables false
set_option linter.unusedSimpArgs false
set_option linter.unusedSectionVars false
namespace Go.Fm
variable [Strict]

section
variable {P : Program} {cx : Ctx} {st st' : St} {a : Act} {m m' : Mem} {w0 : World} {O0 : OX} {n : Nat} {R : Type} {r : R} {G : World → Prop} {o : Oper} {K : St → Option R}

theorem asVal_rows {nodes : Nat → Option Node} (hn : ∀ q x, nodes q = some x → m.nodes q = some x) (hN : ∀ q x, m.nodes q = some x → NodeRel m q x) :
    ∀ (k : Nat) (y : Slot) (e : Kind) (l : List e.T) (u : Value), asVal nodes k y (.slice e) = some l → notDeep y = true → SRel m y u → ∃ A cap, u = .slice A l.length cap ∧
      (l.length = 0 ∨ ∃ b off blk ty fr, A = some ⟨b, off, none⟩ ∧ m.w.heap[b]? = some (.cells blk ty fr) ∧ (¬ m.O b ∨ ∃ q x, nodes q = some x ∧ Blk (m.loc q) b) ∧ Rows (Cells m.w m.O e) ((blk.toList.drop off).take (l.length * width e)) l) := by
  intro k y e l u h hnd hs
  cases k with
  | zero => simp [asVal] at h
  | succ k =>
    cases y <;> simp only [asVal] at h <;> (try (cases h; done)) <;> (try (simp [notDeep] at hnd; done))
    · obtain ⟨hk, h1⟩ := cast?_some h
      subst hk
      dsimp only at h1; subst h1
      simp only [SRel] at hs
      obtain ⟨A, cap, h1, _, h2⟩ := hs.slice_inv
      refine ⟨A, cap, h1, h2.imp id ?_⟩
      rintro ⟨b, off, blk, ty, fr, h3, h4, h5, h6⟩
      exact ⟨b, off, blk, ty, fr, h3, h4, .inl h5, h6⟩
    · simp only [Option.some.injEq] at h
      simp only [SRel] at hs
      subst h; exact ⟨none, 0, hs, .inl rfl⟩
    · rename_i q
      cases hq : nodes q with
      | none => simp [hq] at h
      | some nd =>
        cases nd with
        | var => simp [hq] at h
        | mp => simp [hq] at h
        | hole => simp [hq] at h
        | deep => simp [hq] at h
        | row ty e' l' =>
          simp only [hq] at h
          obtain ⟨hk, h1⟩ := cast?_some h
          cases hk
          dsimp only at h1; subst h1
          simp only [SRel] at hs
          have hm := hn q _ hq
          obtain ⟨xs, h2, h3⟩ := hN q _ hm
          have h4 := hs.2.2 ty e l' hm
          rcases h2.2 with ⟨h5, h6⟩ | ⟨g, cap, cur, h5, _, h6, h7, _, h8, h9⟩
          · exact ⟨none, 0, by rw [h4, h5, h6], .inl h6⟩
          · refine ⟨_, cap, by rw [h4, h5], .inr ⟨g, 0, cur, ty, (0, 0), rfl, h6, .inr ⟨q, _, hq, by rw [h5]; rfl⟩, ?_⟩⟩
            rw [List.drop_zero, h9]; exact h3
    · rename_i q lo hi
      cases hq : nodes q with
      | none => simp [hq] at h
      | some nd =>
        cases nd with
        | var => simp [hq] at h
        | mp => simp [hq] at h
        | hole => simp [hq] at h
        | deep => simp [hq] at h
        | row ty e' l' =>
          simp only [hq] at h
          obtain ⟨hk, h1⟩ := cast?_some h
          cases hk
          dsimp only at h1; subst h1
          simp only [SRel] at hs
          have hm := hn q _ hq
          obtain ⟨g0, g1, g2, A, c, g3, g4, g5⟩ := hs.2 ty e l' hm
          obtain ⟨xs, h2, h3⟩ := hN q _ hm
          have hlen : ((l'.take hi.toNat).drop lo.toNat).length = (hi - lo).toNat := by simp; omega
          refine ⟨A, c, by rw [g3, hlen], ?_⟩
          by_cases hlt : lo < hi
          · right
            obtain ⟨g, nn, cap, g6, g7⟩ := g5.1 hlt
            rcases h2.2 with ⟨h5, _⟩ | ⟨g', cap', cur, h5, _, h6, h7, _, h8, h9⟩
            · rw [g6] at h5; simp at h5
            · rw [g6] at h5; simp at h5; obtain ⟨rfl, _, _⟩ := h5
              refine ⟨g, _, cur, ty, (0, 0), g7, h6, .inr ⟨q, _, hq, by rw [g6]; rfl⟩, ?_⟩
              have hd := Rows.drop (Cells.len e) lo.toNat (Rows.take (Cells.len e) hi.toNat h3)
              rw [hlen]
              have he : (cur.toList.drop (lo.toNat * width e)).take ((hi - lo).toNat * width e) = (xs.take (hi.toNat * width e)).drop (lo.toNat * width e) := by
                rw [← h9, List.take_take, List.drop_take]
                have hle : hi.toNat * width e ≤ l'.length * width e := Nat.mul_le_mul_right _ (by omega)
                rw [Nat.min_eq_left hle, ← Nat.sub_mul]
                congr 2
                omega
              rw [he]; exact hd
          · left; rw [hlen]; omega
    · rename_i q
      cases hq : nodes q with
      | none => simp [hq] at h
      | some nd =>
        cases nd with
        | mp => simp only [hq] at h; obtain ⟨hk, _⟩ := cast?_some h; cases hk
        | hole => simp [hq] at h
        | var => simp [hq] at h
        | row => simp [hq] at h
        | deep => simp [hq] at h
    · rename_i q i f j
      cases hq : nodes q with
      | none => simp [hq] at h
      | some nd =>
        cases nd with
        | var => simp [hq] at h
        | mp => simp [hq] at h
        | hole => simp [hq] at h
        | row => simp [hq] at h
        | deep ty e2 ts l' =>
          simp only [hq] at h
          simp only [SRel] at hs
          cases hg : (partsE e2 (rdT e2 l' i))[j]? with
          | none => simp [hg] at h
          | some p =>
            obtain ⟨e', v'⟩ := p
            simp only [hg] at h
            obtain ⟨hk, h1⟩ := cast?_some h
            cases hk
            dsimp only at h1; subst h1
            obtain ⟨_, ty', _, xs, h2, h3⟩ := part_get (hN q _ (hn q _ hq)) hs.2.1 hs.2.2.1 hg
            dsimp only at h2 h3
            rcases h2.2 with ⟨h5, h6⟩ | ⟨g, cap, cur, h5, _, h6, h7, _, h8, h9⟩
            · exact ⟨none, 0, by rw [h5, h6], .inl h6⟩
            · refine ⟨_, cap, h5, .inr ⟨g, 0, cur, ty', (0, 0), rfl, h6, .inr ⟨q, _, hq, Blk_prt hs.2.2.1 (by rw [h5]; rfl)⟩, ?_⟩⟩
              rw [List.drop_zero, h9]; exact h3

theorem append_run {w : World} {t te ty : TypeId} {e : Kind} {i : TypeInfo} {z : Value} (ht : P.underlying t = some (.slice te)) (hi : P.info? te = some i) (hz : i.zero = some z) (hs : i.size = width e) (hzs : z.cells.size = width e) (hpos : width e ≠ 0)
    {v : Value} {k : Nat} {xs : List Value} (hown : w.ownsRow 0 te (width e) v k xs) {A : Option Addr} {c j : Nat} {news : List Value} (hn : news.length = j * width e)
    (hsrc : j = 0 ∨ ∃ b off blk ty' fr, A = some ⟨b, off, none⟩ ∧ w.heap[b]? = some (.cells blk ty' fr) ∧ blkOf v ≠ some b ∧ news = (blk.toList.drop off).take (j * width e)) (h1 : ∀ u ∈ news, u.oneCell' = true)
    (hmax : k + j ≤ maxLen) (hby : (k + j) * i.bytes ≤ 140737488355328) :
    ∃ v' w', (Builtin.append_ #[t, t] ty #[v, .slice A j c]).run P w = .ok v' w' ∧ w'.ownsRow 0 te (width e) v' (k + j) (xs ++ news) ∧ Frame0 w (fun b => blkOf v = some b) w' ∧ ∀ b, blkOf v' = some b → blkOf v = some b ∨ w.heap.size ≤ b := by
  have hvb : v.ownBlock = blkOf v := by
    rcases hown.2 with ⟨rfl, _⟩ | ⟨g, cap, cur, rfl, _⟩ <;> rfl
  by_cases hj : j = 0
  · subst hj
    have : news = [] := List.eq_nil_of_length_eq_zero (by simpa using hn)
    subst this
    refine ⟨v, w, ?_, by simpa using hown, Frame0.refl w _, fun b hb => .inl hb⟩
    rcases hown.2 with ⟨rfl, rfl⟩ | ⟨g, cap, cur, rfl, _, _, hnc, _⟩
    · cases A <;> simp [Builtin.append_, run_underlying ht, sizeOf, typeInfo, hi, Builtin.lenOf, Builtin.firstCells, loadCells, loadCellsFrom]
    · cases A <;> simp [Builtin.append_, run_underlying ht, sizeOf, typeInfo, hi, Builtin.lenOf, Builtin.firstCells, loadCells, loadCellsFrom, hnc, storeCells]
  · obtain ⟨b, off, blk, ty', fr, rfl, hb, hne, hnews⟩ := hsrc.resolve_left hj
    have hfit : off + j * width e ≤ blk.size := by
      have h2 := hn
      rw [hnews] at h2
      simp at h2
      have : j * width e ≠ 0 := Nat.mul_ne_zero hj hpos
      omega
    have hcells : ∀ q u, news[q]? = some u → w.cell? ((⟨b, off, none⟩ : Addr).add q) = some u := by
      rw [hnews]; exact cells_at hb off _ hfit
    obtain ⟨v', w', hr, h3, h4, h5⟩ := run_append_own (P := P) w 0 t ty te i z (width e) i.bytes ht hi hz hs rfl hzs (by omega) v k xs hown ⟨b, off, none⟩ j c news hn hcells h1 hmax hby (by omega)
    have hdr : w.drawn ≤ w'.drawn := by
      rcases hown.2 with ⟨rfl, rfl⟩ | ⟨g, cap, cur, rfl, hbg, hg, hnc, hcm, hcs, htake⟩
      · have hr2 := run_append_nil (P := P) w t ty te i z ht hi hz ⟨b, off, none⟩ j c news (by rw [hs]; exact hn) hcells (by omega) (by simp [maxLen] at hmax; omega) (by simp at hby; omega)
        rw [hr] at hr2
        simp only [Result.ok.injEq] at hr2
        rw [hr2.2]
        exact Nat.le_succ _
      · by_cases hroom : k + j ≤ cap
        · have hr2 := run_append_room (P := P) w t ty te i ht hi g k cap cur hg ⟨b, off, none⟩ j c news (by rw [hs]; exact hn) hcells h1 hroom (by
            rw [hs, hn, hcs, ← Nat.add_mul]; exact Nat.mul_le_mul_right _ hroom)
          rw [hr] at hr2
          simp only [Result.ok.injEq] at hr2
          rw [hr2.2]
          exact Nat.le_refl _
        · have holds : ∀ q u, xs[q]? = some u → w.cell? ((⟨g, 0, none⟩ : Addr).add q) = some u := hown.cells (g := g) rfl
          have hr2 := run_append_grow (P := P) w t ty te i z ht hi hz ⟨g, 0, none⟩ k cap xs (by rw [hs]; exact hown.1) holds ⟨b, off, none⟩ j c news (by rw [hs]; exact hn) hcells (by omega) (by simp [maxLen] at hmax; omega) (growslice_fits (by omega) hby)
          rw [hr] at hr2
          simp only [Result.ok.injEq] at hr2
          rw [hr2.2]
          exact Nat.le_succ _
    refine ⟨v', w', hr, h3, ⟨h4.os, ⟨h4.tape, fun _ => hdr⟩, h4.output, h4.size, fun q hq hf => h4.block q hq (by rw [hvb]; exact fun e => hf e.symm)⟩, ?_⟩
    intro q hq
    rcases hown.2 with ⟨rfl, rfl⟩ | ⟨g, cap, cur, rfl, hbg, hg, hnc, hcm, hcs, htake⟩
    · have hr2 := run_append_nil (P := P) w t ty te i z ht hi hz ⟨b, off, none⟩ j c news (by rw [hs]; exact hn) hcells (by omega) (by simp [maxLen] at hmax; omega) (by simp at hby; omega)
      rw [hr] at hr2
      simp only [Result.ok.injEq] at hr2
      rw [hr2.1] at hq
      simp [blkOf] at hq; right; omega
    · by_cases hroom : k + j ≤ cap
      · have hr2 := run_append_room (P := P) w t ty te i ht hi g k cap cur hg ⟨b, off, none⟩ j c news (by rw [hs]; exact hn) hcells h1 hroom (by
          rw [hs, hn, hcs, ← Nat.add_mul]; exact Nat.mul_le_mul_right _ hroom)
        rw [hr] at hr2
        simp only [Result.ok.injEq] at hr2
        rw [hr2.1] at hq
        left; simpa [blkOf] using hq
      · have holds : ∀ q u, xs[q]? = some u → w.cell? ((⟨g, 0, none⟩ : Addr).add q) = some u := hown.cells (g := g) rfl
        have hr2 := run_append_grow (P := P) w t ty te i z ht hi hz ⟨g, 0, none⟩ k cap xs (by rw [hs]; exact hown.1) holds ⟨b, off, none⟩ j c news (by rw [hs]; exact hn) hcells (by omega) (by simp [maxLen] at hmax; omega) (growslice_fits (by omega) hby)
        rw [hr] at hr2
        simp only [Result.ok.injEq] at hr2
        rw [hr2.1] at hq
        simp [blkOf] at hq; right; omega
theorem append_run_str {w : World} {t te ty u : TypeId} {i : TypeInfo} (ht : P.underlying t = some (.slice te)) (hu : P.underlying u = some .string) (hi : P.info? te = some i) (hz : i.zero = some (.int .u8 0)) (hs : i.size = 1) (hb1 : i.bytes = 1)
    {v : Value} {k : Nat} {xs : List Value} (hown : w.ownsRow 0 te 1 v k xs) (s : ByteArray) (hmax : k + s.size ≤ maxLen) (hby : k + s.size ≤ 140737488355328) :
    ∃ v' w', (Builtin.append_ #[t, u] ty #[v, .string s]).run P w = .ok v' w' ∧ w'.ownsRow 0 te 1 v' (k + s.size) (xs ++ Lib.strCells s) ∧ Frame0 w (fun b => blkOf v = some b) w' ∧ ∀ b, blkOf v' = some b → blkOf v = some b ∨ w.heap.size ≤ b := by
  have hvb : v.ownBlock = blkOf v := by
    rcases hown.2 with ⟨rfl, _⟩ | ⟨g, cap, cur, rfl, _⟩ <;> rfl
  have hxl : xs.length = k := by simpa using hown.1
  obtain ⟨v', w', hr, h3, h4, h5⟩ := Lib.run_append_own_string (P := P) w 0 t u ty te i ht hu hi hz hs hb1 v k xs hown s hmax hby (by omega)
  have hdr : w.drawn ≤ w'.drawn := by
    have hown' := hown
    rcases hown.2 with ⟨rfl, rfl⟩ | ⟨g, cap, cur, rfl, hbg, hg, hnc, hcm, hcs, htake⟩
    · by_cases hm : s.size = 0
      · have hf := Lib.run_firstCells_string (P := P) w 1 s
        rw [hm] at hf
        have hr2 : (Builtin.append_ #[t, u] ty #[.slice none 0 0, .string s]).run P w = .ok (.slice none 0 0) w := by
          simp [Builtin.append_, run_underlying ht, run_underlying hu, sizeOf, typeInfo, hi, hs, Builtin.lenOf, hm, hf]
        rw [hr] at hr2
        simp only [Result.ok.injEq] at hr2
        rw [hr2.2]
        exact Nat.le_refl _
      · have hr2 := run_append_nil_string (P := P) w t u ty te i (.int .u8 0) ht hu hi hz s (by omega) (by omega) (by rw [hb1]; omega)
        rw [hr] at hr2
        simp only [Result.ok.injEq] at hr2
        rw [hr2.2]
        exact Nat.le_succ _
    · by_cases hroom : k + s.size ≤ cap
      · have hr2 := Lib.run_append_room_string (P := P) w t u ty te i ht hu hi hs g k cap cur hg s hroom (by rw [show cur.size = cap by simpa using hcs]; omega)
        rw [hr] at hr2
        simp only [Result.ok.injEq] at hr2
        rw [hr2.2]
        exact Nat.le_refl _
      · have holds : ∀ q u, xs[q]? = some u → w.cell? ((⟨g, 0, none⟩ : Addr).add q) = some u := hown'.cells (g := g) rfl
        have hr2 := Lib.run_append_grow_string (P := P) w t u ty te i (.int .u8 0) ht hu hi hz ⟨g, 0, none⟩ k cap xs (by rw [hs]; simpa using hxl) holds s (by omega) (by simp [maxLen] at hmax; omega) (by rw [hb1]; exact growslice_fits (by omega) (by omega))
        rw [hr] at hr2
        simp only [Result.ok.injEq] at hr2
        rw [hr2.2]
        exact Nat.le_succ _
  refine ⟨v', w', hr, h3, ⟨h4.os, ⟨h4.tape, fun _ => hdr⟩, h4.output, h4.size, fun q hq hf => h4.block q hq (by rw [hvb]; exact fun e => hf e.symm)⟩, ?_⟩
  intro q hq
  have hown' := hown
  rcases hown.2 with ⟨rfl, rfl⟩ | ⟨g, cap, cur, rfl, hbg, hg, hnc, hcm, hcs, htake⟩
  · have hx : xs = [] := List.eq_nil_of_length_eq_zero hxl
    subst hx
    obtain ⟨v2, w2, hr2, h32, _⟩ := Lib.run_append_own_string (P := P) w w.heap.size t u ty te i ht hu hi hz hs hb1 (.slice none 0 0) 0 [] (World.ownsRow_nil w _ _ _) s hmax hby (Nat.le_refl _)
    rw [hr] at hr2
    simp only [Result.ok.injEq] at hr2
    obtain ⟨rfl, rfl⟩ := hr2
    right
    rcases h32.2 with ⟨rfl, _⟩ | ⟨g, cap, cur, rfl, hbg, _⟩
    · simp [blkOf] at hq
    · simp [blkOf] at hq; omega
  · by_cases hroom : k + s.size ≤ cap
    · have hr2 := Lib.run_append_room_string (P := P) w t u ty te i ht hu hi hs g k cap cur hg s hroom (by rw [show cur.size = cap by simpa using hcs]; omega)
      rw [hr] at hr2
      simp only [Result.ok.injEq] at hr2
      rw [hr2.1] at hq
      left; simpa [blkOf] using hq
    · have holds : ∀ q u, xs[q]? = some u → w.cell? ((⟨g, 0, none⟩ : Addr).add q) = some u := hown'.cells (g := g) rfl
      have hr2 := Lib.run_append_grow_string (P := P) w t u ty te i (.int .u8 0) ht hu hi hz ⟨g, 0, none⟩ k cap xs (by rw [hs]; simpa using hxl) holds s (by omega) (by simp [maxLen] at hmax; omega) (by rw [hb1]; exact growslice_fits (by omega) (by omega))
      rw [hr] at hr2
      simp only [Result.ok.injEq] at hr2
      rw [hr2.1] at hq
      simp [blkOf] at hq; right; omega
end
end Go.Fm
