/- The functional machine: rows copied, cells of any number an element: for slices.Insert. -/
import Derived.Test.YtaenobdphjindaaDoorFmGv
import Derived.Shelf.Spec.SlicesInsert
import Derived.Lib.AppendZerosOnto
import Derived.Laws.CopyRow
import Derived.Laws.NewBlocks
set_option autoImplicit true
set_option linter.unusedVariables false
set_option linter.unusedSimpArgs false
namespace Go.Fm
open Go.Proofs Go.Shelf Go.RowKit Go.Lib
theorem run_copy_rowK {P : Program} (w : World) (dT sT ty elem : TypeId) (g o dLen dCap : Nat) (a : Addr) (sLen sCap : Nat) (cur : Array Value) (t : TypeId) (k : Nat) (cs : List Value)
    (hu : P.underlying dT = some (.slice elem)) (hs : (P.info? elem).map (·.size) = some k)
    (hg : w.heap[g]? = some (.cells cur t (0, 0))) (hn : cs.length = Nat.min sLen dLen * k)
    (hsrc : ∀ j v, cs[j]? = some v → w.cell? (a.add j) = some v) (hfit : o + cs.length ≤ cur.size) (h1 : ∀ v ∈ cs, v.oneCell' = true) :
    (Builtin.copy_ #[dT, sT] ty #[.slice (some ⟨g, o, none⟩) dLen dCap, .slice (some a) sLen sCap]).run P w =
      .ok (goInt (Nat.min sLen dLen)) (w.setRow g (cur.toList.take o ++ cs ++ cur.toList.drop (o + cs.length)).toArray) := by
  have hst := run_storeCells_at P g o t cs 0 cur w hg (by simpa using hfit) h1
  simp only [Nat.add_zero] at hst
  cases hq : P.info? elem with
  | none => simp [hq] at hs
  | some i =>
    have hi : i.size = k := by simpa [hq] using hs
    have hf := run_firstCells_some (P := P) w i.size (Nat.min sLen dLen) a sLen sCap cs (by rw [hi]; exact hn) hsrc
    simp [Builtin.copy_, run_underlying hu, Builtin.lenOf, sizeOf, typeInfo, hq, hf, hst]
theorem cells_of_row {w : World} {g : Nat} {cur : Array Value} {t : TypeId} (hg : w.heap[g]? = some (.cells cur t (0, 0))) (o n : Nat) (hl : o + n ≤ cur.size) : ∀ j v, ((cur.toList.drop o).take n)[j]? = some v → w.cell? ((⟨g, o, none⟩ : Addr).add j) = some v := by
  intro j v h
  rw [Addr.add_lit]
  rw [List.getElem?_take] at h
  split at h
  · rw [List.getElem?_drop] at h
    unfold World.cell?
    simp only [hg]
    simpa using h
  · cases h
/-- slices.Insert of one value or more -/
def gvIns (e : Kind) (B : Nat) (s : List e.T) (i : Int) (v : List e.T) : Option (List e.T) :=
  if 0 ≤ i ∧ i ≤ (s.length : Int) ∧ 1 ≤ v.length ∧ (s.length + v.length) * B ≤ 140737488355328 then some (s.take i.toNat ++ (v ++ s.drop i.toNat)) else none
def insFn (ty : Nat) (e : Kind) (B : Nat) : Fn := ⟨[.own ty e, .val (.int .i64), .own ty e], .own ty e, fun v => gvIns e B v.1 v.2.1 v.2.2.1⟩
/-- its roads, each walked -/
structure InsRoads (P : Program) (f ty k B : Nat) : Prop where
  shift : ∀ (g n c i vb m vc : Nat) (cur curv : Array Value) (w : World), w.heap[g]? = some (.cells cur ty (0, 0)) → w.heap[vb]? = some (.cells curv ty (0, 0)) → vb ≠ g → i < n → 0 < m → n + m ≤ c → c ≤ 9223372036854775807 → cur.size = c * k → curv.size = vc * k → m ≤ vc →
    (∀ v ∈ (cur.toList.drop (i * k)).take ((n - i) * k), v.oneCell' = true) → (∀ v ∈ curv.toList.take (m * k), v.oneCell' = true) →
    Calls P f #[.slice (some ⟨g, 0, none⟩) n c, .int .i64 i, .slice (some ⟨vb, 0, none⟩) m vc] w fun e w' =>
      e = .returned (.slice (some ⟨g, 0, none⟩) (n + m) c) ∧ ∃ q, w' = (w.drewN q).setRow g (cur.toList.take (i * k) ++ curv.toList.take (m * k) ++ (cur.toList.drop (i * k)).take ((n - i) * k) ++ cur.toList.drop ((n + m) * k)).toArray
  behind : ∀ (u : Value) (n vb m vc : Nat) (xs : List Value) (curv : Array Value) (w : World), w.ownsRow 0 ty k u n xs → w.heap[vb]? = some (.cells curv ty (0, 0)) → blkOf u ≠ some vb → 0 < m → curv.size = vc * k → m ≤ vc → (∀ v ∈ curv.toList.take (m * k), v.oneCell' = true) → n + m ≤ maxLen → (n + m) * B ≤ 140737488355328 →
    Calls P f #[u, .int .i64 n, .slice (some ⟨vb, 0, none⟩) m vc] w fun e w' =>
      ∃ v', e = .returned v' ∧ w'.ownsRow 0 ty k v' (n + m) (xs ++ curv.toList.take (m * k)) ∧ Frame0 w (fun b => blkOf u = some b) w' ∧ ∀ b, blkOf v' = some b → blkOf u = some b ∨ w.heap.size ≤ b
  grow : ∀ (g n c i vb m vc : Nat) (cur curv : Array Value) (w : World), w.heap[g]? = some (.cells cur ty (0, 0)) → w.heap[vb]? = some (.cells curv ty (0, 0)) → i < n → 0 < m → n ≤ c → c < n + m → cur.size = c * k → curv.size = vc * k → m ≤ vc → n + m ≤ maxLen → (n + m) * B ≤ 140737488355328 →
    (∀ v ∈ (cur.toList.drop (i * k)).take ((n - i) * k), v.oneCell' = true) → (∀ v ∈ curv.toList.take (m * k), v.oneCell' = true) →
    Calls P f #[.slice (some ⟨g, 0, none⟩) n c, .int .i64 i, .slice (some ⟨vb, 0, none⟩) m vc] w fun e w' =>
      ∃ G tail, e = .returned (.slice (some ⟨w.heap.size, 0, none⟩) (n + m) G) ∧ n + m ≤ G ∧ G ≤ maxLen ∧ ∃ (q : Nat) (D : Array Value), w' = ((w.alloc (.cells D ty)).drewN q).setRow w.heap.size (cur.toList.take (i * k) ++ curv.toList.take (m * k) ++ (cur.toList.drop (i * k)).take ((n - i) * k) ++ tail).toArray ∧ (n + m) * k + tail.length = G * k
theorem Rows.ones {w : World} {O : Nat → Prop} {e : Kind} {xs : List Value} {l : List e.T} (h : Rows (Cells w O e) xs l) : ∀ u ∈ xs, u.oneCell' = true := by
  intro u hu
  obtain ⟨c, x, _, h1, h2⟩ := h.mem hu
  exact h1.one u h2
theorem Con.insert {P : Program} {G : World → Prop} {f ty B : Nat} {e : Kind} (hB : 1 ≤ B) (R : InsRoads P f ty (width e) B) : Con P G f (insFn ty e B) := by
  intro v r w args bl X h ha hbl hX hG
  obtain ⟨s, i, vs, ⟨⟩⟩ := v
  obtain ⟨u, us, xs, b2, rfl, hb, how, hrows, u1, us1, rfl, h1, u2, us2, ys, b3, rfl, hb2, how2, hrows2, rfl, rfl⟩ := ha
  dsimp only [insFn, gvIns] at r h how hrows h1 how2 hrows2 ⊢
  split at h
  · rename_i hc
    obtain ⟨hi0, hin, hv1, hby⟩ := hc
    obtain rfl := Option.some.inj h
    obtain ⟨j, rfl⟩ := Int.eq_ofNat_of_zero_le hi0
    have hu1 : u1 = .int .i64 (j : Int) := h1.int_inv
    subst hu1
    have hjn : j ≤ s.length := by omega
    have hmax : s.length + vs.length ≤ maxLen := by
      have := Nat.le_mul_of_pos_right (s.length + vs.length) hB
      simp only [maxLen]; omega
    have hones := hrows.ones
    have hones2 := hrows2.ones
    rcases how2.2 with ⟨_, h0⟩ | ⟨vb, vc, curv, rfl, _, hv, hmv, hvm, hvs, hvt⟩
    · omega
    have hvb : blkOf u ≠ some vb := by
      intro hu
      rw [hb, hb2, hu] at hbl
      simp [blkOf] at hbl
    have hvbl : vb ∈ bl := by rw [hb, hb2]; simp [blkOf]
    have hubl : ∀ b, blkOf u = some b → b ∈ bl := fun b hu => by rw [hb, hu]; simp
    rw [← hvt] at hones2
    -- what is common: cells kept
    have keep : ∀ (w' : World) (bl' : List Nat), Frame0 w (· ∈ bl) w' → (∀ b ∈ bl', w.heap.size ≤ b ∨ b ∈ bl) → ∀ {cs : List Value} {l : List e.T}, Rows (Cells w (fun b => b ∈ bl ∨ X b) e) cs l → Rows (Cells w' (fun b => b ∈ bl' ∨ X b) e) cs l := fun w' bl' hf hb' cs l hr =>
      hr.imp fun c x hc => hc.keep ⟨fun b hlt hO => hf.block b hlt (fun h => hO (.inl h)), fun b hlt hO => hO.imp (fun h => (hb' b h).resolve_left (by omega)) id⟩
    by_cases hjn' : j = s.length
    · subst hjn'
      have hc := R.behind u s.length vb vs.length vc xs curv w how hv hvb (by omega) hvs hmv hones2 hmax hby
      refine hc.mono ?_
      rintro e' w' ⟨v', rfl, k1, k2, k3⟩
      have hf : Frame0 w (· ∈ bl) w' := ⟨k2.os, k2.tape, k2.output, k2.size, fun b hlt hn => k2.block b hlt (fun h => hn (hubl b h))⟩
      have hbl' : ∀ b ∈ (blkOf v').toList, w.heap.size ≤ b ∨ b ∈ bl := fun b h => by
        have := k3 b (by simpa using h)
        exact this.elim (fun h => .inr (hubl b h)) .inl
      rw [hvt] at k1
      refine ⟨v', rfl, hf, (blkOf v').toList, ⟨v', xs ++ ys, rfl, rfl, ?_, ?_⟩, by cases blkOf v' <;> simp, hbl'⟩
      · have : (s.take ((s.length : Nat) : Int).toNat ++ (vs ++ s.drop ((s.length : Nat) : Int).toNat)).length = s.length + vs.length := by simp
        rw [this]
        exact k1
      · have e1 : s.take ((s.length : Nat) : Int).toNat ++ (vs ++ s.drop ((s.length : Nat) : Int).toNat) = s ++ vs := by simp
        rw [e1]
        exact (keep w' _ hf hbl' hrows).append (keep w' _ hf hbl' hrows2)
    · rcases how.2 with ⟨_, h0⟩ | ⟨g, c, cur, rfl, _, hg, hnc, hcm, hcs, htk⟩
      · omega
      have hne : vb ≠ g := fun e => hvb (by simp [blkOf, e])
      have hgbl : g ∈ bl := hubl g rfl
      have hcm' : c ≤ 9223372036854775807 := by simp only [maxLen] at hcm; omega
      have hd : (cur.toList.drop (j * width e)).take ((s.length - j) * width e) = xs.drop (j * width e) := by
        rw [← htk, List.drop_take, Nat.sub_mul]
      have ht : cur.toList.take (j * width e) = xs.take (j * width e) := by
        rw [← htk, List.take_take, Nat.min_eq_left (Nat.mul_le_mul_right _ hjn)]
      have hdo : ∀ v ∈ (cur.toList.drop (j * width e)).take ((s.length - j) * width e), v.oneCell' = true := by
        rw [hd]; exact fun v hv => hones v (List.mem_of_mem_drop hv)
      have hxl := how.1
      have hyl := how2.1
      have hjw : j * width e ≤ s.length * width e := Nat.mul_le_mul_right _ hjn
      have hall : ∀ {w' : World} {bl' : List Nat}, Frame0 w (· ∈ bl) w' → (∀ b ∈ bl', w.heap.size ≤ b ∨ b ∈ bl) → Rows (Cells w' (fun b => b ∈ bl' ∨ X b) e) (xs.take (j * width e) ++ (ys ++ xs.drop (j * width e))) (s.take j ++ (vs ++ s.drop j)) := fun hf hb' =>
        ((keep _ _ hf hb' (Rows.take (Cells.len e) j hrows)).append ((keep _ _ hf hb' hrows2).append (keep _ _ hf hb' (Rows.drop (Cells.len e) j hrows))))
      have hlen : (s.take j ++ (vs ++ s.drop j)).length = s.length + vs.length := by simp; omega
      have hlenx : (xs.take (j * width e) ++ (ys ++ xs.drop (j * width e))).length = (s.length + vs.length) * width e := by
        simp only [List.length_append, List.length_take, List.length_drop, hxl, hyl, Nat.add_mul]; omega
      by_cases hroom : s.length + vs.length ≤ c
      · have hc := R.shift g s.length c j vb vs.length vc cur curv w hg hv hne (by omega) (by omega) hroom hcm' hcs hvs hmv hdo hones2
        refine hc.mono ?_
        rintro e' w' ⟨rfl, q, rfl⟩
        rw [ht, hvt, hd]
        have hf : Frame0 w (· ∈ bl) ((w.drewN q).setRow g (xs.take (j * width e) ++ ys ++ xs.drop (j * width e) ++ cur.toList.drop ((s.length + vs.length) * width e)).toArray) :=
          ⟨rfl, rfl, rfl, by simp [World.setRow, World.drewN], fun b hlt hn => setRow_other (w.drewN q) g b _ (fun e => hn (e ▸ hgbl))⟩
        have hbl' : ∀ b ∈ [g], w.heap.size ≤ b ∨ b ∈ bl := fun b h => .inr (by simp at h; exact h ▸ hgbl)
        refine ⟨_, rfl, hf, [g], ⟨_, xs.take (j * width e) ++ (ys ++ xs.drop (j * width e)), rfl, rfl, ?_, hall hf hbl'⟩, by simp, hbl'⟩
        refine ⟨by simp only [Int.toNat_natCast]; rw [hlen]; exact hlenx, .inr ⟨g, c, _, by simp only [Int.toNat_natCast]; rw [hlen], Nat.zero_le _, setRow_heap (w.drewN q) g cur _ ty (0, 0) hg, by simp only [Int.toNat_natCast]; rw [hlen]; exact hroom, hcm, ?_, ?_⟩⟩
        · have := hlenx
          have hle := Nat.mul_le_mul_right (width e) hroom
          simp only [List.size_toArray, List.length_append, List.length_drop, Array.length_toList] at this ⊢
          omega
        · show List.take _ (xs.take (j * width e) ++ ys ++ xs.drop (j * width e) ++ cur.toList.drop ((s.length + vs.length) * width e)) = _
          simp only [Int.toNat_natCast]
          rw [hlen, ← hlenx, List.append_assoc (xs.take (j * width e)) ys, List.take_left]
      · have hc := R.grow g s.length c j vb vs.length vc cur curv w hg hv (by omega) (by omega) hnc (by omega) hcs hvs hmv hmax hby hdo hones2
        refine hc.mono ?_
        rintro e' w' ⟨Gc, tail, rfl, hG1, hG2, q, D, rfl, htl⟩
        rw [ht, hvt, hd]
        have hf : Frame0 w (· ∈ bl) (((w.alloc (.cells D ty)).drewN q).setRow w.heap.size (xs.take (j * width e) ++ ys ++ xs.drop (j * width e) ++ tail).toArray) :=
          ⟨rfl, rfl, rfl, by simp [World.setRow, World.drewN], fun b hlt hn => (setRow_other _ w.heap.size b _ (by omega)).trans (heap_alloc_old w _ hlt)⟩
        have hbl' : ∀ b ∈ [w.heap.size], w.heap.size ≤ b ∨ b ∈ bl := fun b h => .inl (by simp at h; omega)
        refine ⟨_, rfl, hf, [w.heap.size], ⟨_, xs.take (j * width e) ++ (ys ++ xs.drop (j * width e)), rfl, rfl, ?_, hall hf hbl'⟩, by simp, hbl'⟩
        refine ⟨by simp only [Int.toNat_natCast]; rw [hlen]; exact hlenx, .inr ⟨w.heap.size, Gc, _, by simp only [Int.toNat_natCast]; rw [hlen], Nat.zero_le _, setRow_heap _ w.heap.size D _ ty (0, 0) (heap_alloc_new w _), by simp only [Int.toNat_natCast]; rw [hlen]; exact hG1, hG2, ?_, ?_⟩⟩
        · have := hlenx
          simp only [List.size_toArray, List.length_append, List.length_drop] at this ⊢
          omega
        · show List.take _ (xs.take (j * width e) ++ ys ++ xs.drop (j * width e) ++ tail) = _
          simp only [Int.toNat_natCast]
          rw [hlen, ← hlenx, List.append_assoc (xs.take (j * width e)) ys, List.take_left]
  · cases h
end Go.Fm
