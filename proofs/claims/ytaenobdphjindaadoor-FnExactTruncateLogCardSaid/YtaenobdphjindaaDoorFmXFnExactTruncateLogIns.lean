/- slices.Insert at this program: its roads, each walked. -/
import Derived.Test.YtaenobdphjindaaDoorFmIns
import Derived.Test.YtaenobdphjindaaDoorProg
set_option linter.unusedVariables false
set_option linter.unusedSimpArgs false
namespace Go.Proofs.YtaenobdphjindaaDoor.Ins66
open Go.Proofs Go.Shelf Go.RowKit Go.Lib Go.Fm
theorem u25 : Tryd.prog.underlying 25 = some (.slice 53) := by kernel_rfl
theorem u3 : Tryd.prog.underlying 3 = some (.int .i64) := by kernel_rfl
theorem mixed : Tryd.prog.follows .mixedOrders = true := by kernel_rfl
theorem z53 : ∀ w, (Go.sizeOf 53).run Tryd.prog w = .ok 6 w := fun w => by
  have : (Tryd.prog.info? 53).map (·.size) = some 6 := by kernel_rfl
  cases hq : Tryd.prog.info? 53 with
  | none => simp [hq] at this
  | some i => simp [hq] at this; simp [sizeOf, typeInfo, hq, this]
theorem s53 : (Tryd.prog.info? 53).map (·.size) = some 6 := by kernel_rfl
abbrev KK : Kind := (.struct (.pair (.int .i64) (.pair .str (.pair .str (.struct (.pair (.int .i64) (.pair (.int .i64) .bool)))))))
theorem i53 : ∃ i z, Tryd.prog.info? 53 = some i ∧ i.zero = some z ∧ i.size = width KK ∧ i.bytes = 64 ∧ z.cells.size = width KK := by
  have h : (match Tryd.prog.info? 53 with | some i => (match i.zero with | some z => decide (i.size = width KK ∧ i.bytes = 64 ∧ z.cells.size = width KK) | none => false) | none => false) = true := by kernel_rfl
  split at h
  · rename_i i hi
    split at h
    · rename_i z hz
      exact ⟨i, z, hi, hz, of_decide_eq_true h⟩
    · cases h
  · cases h
set_option maxHeartbeats 4000000 in
set_option maxRecDepth 100000 in
theorem ins_shift (g n c i vb m vc : Nat) (cur curv : Array Value) (w : World) (hg : w.heap[g]? = some (.cells cur 53 (0, 0))) (hv : w.heap[vb]? = some (.cells curv 53 (0, 0))) (hvb : vb ≠ g)
    (hi : i < n) (hm : 0 < m) (hroom : n + m ≤ c) (hc63 : c ≤ 9223372036854775807) (hcs : cur.size = c * 6) (hvs : curv.size = vc * 6) (hmv : m ≤ vc)
    (h1c : ∀ v ∈ (cur.toList.drop (i * 6)).take ((n - i) * 6), v.oneCell' = true) (h1v : ∀ v ∈ curv.toList.take (m * 6), v.oneCell' = true) :
    Calls Tryd.prog 66 #[.slice (some ⟨g, 0, none⟩) n c, .int .i64 i, .slice (some ⟨vb, 0, none⟩) m vc] w fun e w' =>
      e = .returned (.slice (some ⟨g, 0, none⟩) (n + m) c) ∧ ∃ q, w' = (w.drewN q).setRow g (cur.toList.take (i * 6) ++ curv.toList.take (m * 6) ++ (cur.toList.drop (i * 6)).take ((n - i) * 6) ++ cur.toList.drop ((n + m) * 6)).toArray := by
  have U25 := run_underlying u25
  have U3 := run_underlying u3
  have mixed := mixed
  have hz1 : ¬ ((m : Int) = 0) := by omega
  have hz2 : ¬ ((i : Int) = (n : Int)) := by omega
  have hw1 : IntKind.i64.wrap ((i : Int) + (m : Int)) = (i : Int) + (m : Int) := by rw [IntKind.wrap_i64]; omega
  have hw2 : IntKind.i64.wrap ((n : Int) + (m : Int)) = (n : Int) + (m : Int) := by rw [IntKind.wrap_i64]; omega
  have hb1 : (0 : Int) ≤ (i : Int) + (m : Int) := by omega
  have hin : i ≤ n := by omega
  have htn : ((i : Int) + (m : Int)).toNat = i + m := by omega
  have hb2 : ¬ (c = i + m) := by omega
  have hb3 : (i : Int) ≤ (n : Int) + (m : Int) := by omega
  have hb4 : ¬ (c = i) := by omega
  have hov : ∀ lb cb, (callFunc 79 #[.slice (some ⟨vb, 0, none⟩) m vc, .slice (some ⟨g, (i + m) * 6, none⟩) lb cb]).run Tryd.prog w = .ok (.value (.bool false)) w := fun lb cb => by
    rw [run_callFunc_extern Tryd.func79 (by kernel_rfl) (by kernel_rfl) (by kernel_rfl) (e := Extern.SlicesOverlaps.overlaps #[25, 25] #[4]) (by kernel_rfl),
      Lib.run_overlaps_apart w 25 4 53 u25 6 z53 ⟨vb, 0, none⟩ ⟨g, (i + m) * 6, none⟩ m vc lb cb hvb 53 53 curv.size cur.size (by simp [World.shape?, hv]) (by simp [World.shape?, hg]) (by omega) (by simp [World.frozen?, hv]) (by simp [World.frozen?, hv])]
    rfl
  have hgd : w.drew.heap[g]? = some (.cells cur 53 (0, 0)) := hg
  have hl1 : ((cur.toList.drop (i * 6)).take ((n - i) * 6)).length = (n - i) * 6 := by simp only [List.length_take, List.length_drop, Array.length_toList]; omega
  have hmin : Nat.min (n + m - i) (n + m - (i + m)) = n - i := by simp only [Nat.min_def]; split <;> omega
  have hcp1 : ∀ ty dc sc, (Builtin.copy_ #[25, 25] ty #[.slice (some ⟨g, (i + m) * 6, none⟩) (n + m - (i + m)) dc, .slice (some ⟨g, i * 6, none⟩) (n + m - i) sc]).run Tryd.prog w.drew = .ok (goInt ((n - i : Nat) : Int)) (w.drew.setRow g (cur.toList.take ((i + m) * 6) ++ (cur.toList.drop (i * 6)).take ((n - i) * 6) ++ cur.toList.drop ((i + m) * 6 + ((cur.toList.drop (i * 6)).take ((n - i) * 6)).length)).toArray) := fun ty dc sc => by
    have := run_copy_rowK (P := Tryd.prog) w.drew 25 25 ty 53 g ((i + m) * 6) (n + m - (i + m)) dc ⟨g, i * 6, none⟩ (n + m - i) sc cur 53 6 ((cur.toList.drop (i * 6)).take ((n - i) * 6)) u25 s53 hgd (by rw [hl1, hmin]) (cells_of_row hgd _ _ (by omega)) (by rw [hl1]; omega) h1c
    rw [hmin] at this
    exact this
  obtain ⟨W1, hW1⟩ : ∃ W1, W1 = w.drew.setRow g (cur.toList.take ((i + m) * 6) ++ (cur.toList.drop (i * 6)).take ((n - i) * 6) ++ cur.toList.drop ((i + m) * 6 + ((cur.toList.drop (i * 6)).take ((n - i) * 6)).length)).toArray := ⟨_, rfl⟩
  rw [← hW1] at hcp1
  have hr1 : cur.toList.take ((i + m) * 6) ++ (cur.toList.drop (i * 6)).take ((n - i) * 6) ++ cur.toList.drop ((i + m) * 6 + ((cur.toList.drop (i * 6)).take ((n - i) * 6)).length) = cur.toList.take ((i + m) * 6) ++ (cur.toList.drop (i * 6)).take ((n - i) * 6) ++ cur.toList.drop ((n + m) * 6) := by rw [hl1]; congr 2; omega
  rw [hr1] at hW1
  generalize hC : (cur.toList.take ((i + m) * 6) ++ (cur.toList.drop (i * 6)).take ((n - i) * 6) ++ cur.toList.drop ((n + m) * 6)).toArray = C1 at hW1
  have hCl : C1.size = cur.size := by rw [← hC]; simp only [List.size_toArray, List.length_append, List.length_take, List.length_drop, Array.length_toList]; omega
  have hg1 : W1.heap[g]? = some (.cells C1 53 (0, 0)) := by rw [hW1]; exact setRow_heap w.drew g cur C1 53 _ hgd
  have hv1 : W1.heap[vb]? = some (.cells curv 53 (0, 0)) := by rw [hW1]; exact (setRow_other w.drew g vb C1 hvb).trans hv
  have hl2 : (curv.toList.take (m * 6)).length = m * 6 := by simp only [List.length_take, Array.length_toList]; omega
  have hmin2 : Nat.min m (n + m - i) = m := by simp only [Nat.min_def]; split <;> omega
  have hcp2 : ∀ (W : World) (hWg : W.heap[g]? = some (.cells C1 53 (0, 0))) (hWv : W.heap[vb]? = some (.cells curv 53 (0, 0))), ∀ ty dc, (Builtin.copy_ #[25, 25] ty #[.slice (some ⟨g, i * 6, none⟩) (n + m - i) dc, .slice (some ⟨vb, 0, none⟩) m vc]).run Tryd.prog W = .ok (goInt ((m : Nat) : Int)) (W.setRow g (C1.toList.take (i * 6) ++ curv.toList.take (m * 6) ++ C1.toList.drop (i * 6 + (curv.toList.take (m * 6)).length)).toArray) := fun W hWg hWv ty dc => by
    have := run_copy_rowK (P := Tryd.prog) W 25 25 ty 53 g (i * 6) (n + m - i) dc ⟨vb, 0, none⟩ m vc C1 53 6 (curv.toList.take (m * 6)) u25 s53 hWg (by rw [hl2, hmin2]) (by have h := cells_of_row hWv 0 (m * 6) (by omega); simpa using h) (by rw [hl2]; omega) h1v
    rw [hmin2] at this
    exact this
  have hcp3 := hcp2 W1 hg1 hv1
  subst hW1
  go_enter Tryd.func66, Tryd.ntmps66
  go_wp2_with (simp only [hov])
  go_region_law_o (refine step_copy_runI rfl _ _ 25 25 rfl _ _ (by simp [Act.eval, Act.put]) (by simp [Act.eval, Act.put]) (hcp1 _ _ _) ?_)
  go_wp2_with (at_builtin; refine wpList_copy_runI _ rfl _ _ 25 25 rfl _ _ rfl rfl (hcp3 _ _) ?_)
  go_ret
  refine ⟨rfl, 1, ?_⟩
  rw [setRow_setRow]
  have hd1 : w.drewN 1 = w.drew := rfl
  rw [hd1]
  congr 2
  rw [← hC]
  have a1 : (cur.toList.take ((i + m) * 6)).length = (i + m) * 6 := by simp only [List.length_take, Array.length_toList]; omega
  have a2 : i * 6 + m * 6 = (i + m) * 6 := by omega
  have a3 : ∀ (X Y Z : List Value) (p q : Nat), X.length = q → p ≤ q → List.take p (X ++ Y ++ Z).toArray.toList = X.take p := fun X Y Z p q hX hp => by
    show List.take p (X ++ Y ++ Z) = _
    rw [List.append_assoc, List.take_append_of_le_length (by omega)]
  have a4 : ∀ (X Y Z : List Value) (q : Nat), X.length = q → List.drop q (X ++ Y ++ Z).toArray.toList = Y ++ Z := fun X Y Z q hX => by
    show List.drop q (X ++ Y ++ Z) = _
    rw [List.append_assoc, List.drop_append_of_le_length (by omega), List.drop_of_length_le (by omega), List.nil_append]
  rw [a2, a3 _ _ _ _ _ a1 (by omega), a4 _ _ _ _ a1, List.take_take, Nat.min_eq_left (by omega)]
  simp only [List.append_assoc]
set_option maxHeartbeats 4000000 in
set_option maxRecDepth 100000 in
theorem ins_end (u : Value) (n vb m vc : Nat) (xs : List Value) (curv : Array Value) (w : World) (how : w.ownsRow 0 53 6 u n xs) (hv : w.heap[vb]? = some (.cells curv 53 (0, 0))) (hvb : blkOf u ≠ some vb)
    (hm : 0 < m) (hvs : curv.size = vc * 6) (hmv : m ≤ vc) (h1v : ∀ v ∈ curv.toList.take (m * 6), v.oneCell' = true) (hmax : n + m ≤ maxLen) (hby : (n + m) * 64 ≤ 140737488355328) :
    Calls Tryd.prog 66 #[u, .int .i64 n, .slice (some ⟨vb, 0, none⟩) m vc] w fun e w' =>
      ∃ v', e = .returned v' ∧ w'.ownsRow 0 53 6 v' (n + m) (xs ++ curv.toList.take (m * 6)) ∧ Frame0 w (fun b => blkOf u = some b) w' ∧ ∀ b, blkOf v' = some b → blkOf u = some b ∨ w.heap.size ≤ b := by
  have U25 := run_underlying u25
  have U3 := run_underlying u3
  have mixed := mixed
  have hz1 : ¬ ((m : Int) = 0) := by omega
  obtain ⟨i0, z0, hi0, hz0, hs0, hb0, hzs⟩ := i53
  have hl2 : (curv.toList.take (m * 6)).length = m * 6 := by simp only [List.length_take, Array.length_toList]; omega
  obtain ⟨v', w', hrun, k1, k2, k3⟩ := append_run (P := Tryd.prog) (t := 25) (te := 53) (ty := 25) (e := KK) u25 hi0 hz0 hs0 hzs (by decide) (xs := xs) (k := n) how (A := some ⟨vb, 0, none⟩) (c := vc) (j := m) (news := curv.toList.take (m * 6)) hl2 (.inr ⟨vb, 0, curv, 53, (0, 0), rfl, hv, hvb, by simp; rfl⟩) h1v hmax (by rw [hb0]; exact hby)
  rcases how.2 with ⟨rfl, rfl⟩ | ⟨g, c, cur, rfl, _, hg, hnc, hcm, hcs, htk⟩
  · go_enter Tryd.func66, Tryd.ntmps66
    go_wp2_with (at_builtin; refine Lib.wpList_append_run _ rfl _ _ _ _ rfl _ _ rfl rfl _ _ hrun ?_)
    go_ret
    exact ⟨v', rfl, k1, k2, k3⟩
  · have hcm' : c ≤ 9223372036854775807 := by unfold maxLen at hcm; omega
    have hn63 : n ≤ 9223372036854775807 := by omega
    go_enter Tryd.func66, Tryd.ntmps66
    go_wp2_with (at_builtin; refine Lib.wpList_append_run _ rfl _ _ _ _ rfl _ _ rfl rfl _ _ hrun ?_)
    all_goals (go_ret; exact ⟨v', rfl, k1, k2, k3⟩)
set_option maxHeartbeats 4000000 in
set_option maxRecDepth 100000 in
theorem ins_grow (g n c i vb m vc : Nat) (cur curv : Array Value) (w : World) (hg : w.heap[g]? = some (.cells cur 53 (0, 0))) (hv : w.heap[vb]? = some (.cells curv 53 (0, 0)))
    (hi : i < n) (hm : 0 < m) (hnc : n ≤ c) (hroom : c < n + m) (hcs : cur.size = c * 6) (hvs : curv.size = vc * 6) (hmv : m ≤ vc) (hmax : n + m ≤ maxLen) (hby : (n + m) * 64 ≤ 140737488355328)
    (h1c : ∀ v ∈ (cur.toList.drop (i * 6)).take ((n - i) * 6), v.oneCell' = true) (h1v : ∀ v ∈ curv.toList.take (m * 6), v.oneCell' = true) :
    Calls Tryd.prog 66 #[.slice (some ⟨g, 0, none⟩) n c, .int .i64 i, .slice (some ⟨vb, 0, none⟩) m vc] w fun e w' =>
      ∃ G tail, e = .returned (.slice (some ⟨w.heap.size, 0, none⟩) (n + m) G) ∧ n + m ≤ G ∧ G ≤ maxLen ∧ ∃ (q : Nat) (D : Array Value), w' = ((w.alloc (.cells D 53)).drewN q).setRow w.heap.size (cur.toList.take (i * 6) ++ curv.toList.take (m * 6) ++ (cur.toList.drop (i * 6)).take ((n - i) * 6) ++ tail).toArray ∧ (n + m) * 6 + tail.length = G * 6 := by
  have U25 := run_underlying u25
  have U3 := run_underlying u3
  have mixed := mixed
  have hm63 : n + m ≤ 9223372036854775807 := by unfold maxLen at hmax; omega
  have hz1 : ¬ ((m : Int) = 0) := by omega
  have hz2 : ¬ ((i : Int) = (n : Int)) := by omega
  have hz3 : (c : Int) < (n : Int) + (m : Int) := by omega
  obtain ⟨i0, z0, hi0, hz0, hs0, hb0, hzs⟩ := i53
  have hs6 : i0.size = 6 := hs0
  have hz6 : z0.cells.size = 6 := hzs
  have hbw : g < w.heap.size := lt_of_heap hg
  have hvw : vb < w.heap.size := lt_of_heap hv
  have hkk : (n : Int) + (m : Int) - (i : Int) = ((n + m - i : Nat) : Int) := by omega
  have hik : i + (n + m - i) = n + m := by omega
  have hold : (Builtin.firstCells i0.size i (.slice (some ⟨g, 0, none⟩) i c)).run Tryd.prog w.drew = .ok (cur.toList.take (i * 6)).toArray w.drew := by
    rw [hs6]
    refine run_firstCells_some w.drew 6 i ⟨g, 0, none⟩ i c (cur.toList.take (i * 6)) (by simp only [List.length_take, Array.length_toList]; omega) ?_
    have h := cells_of_row (w := w.drew) hg 0 (i * 6) (by omega)
    simpa using h
  have hrz : ∀ ty, (Builtin.append_ #[25, 3] ty #[.slice (some ⟨g, 0, none⟩) i c, .int .i64 ((n : Int) + (m : Int) - (i : Int))]).run Tryd.prog w =
      .ok (.slice (some ⟨w.heap.size, 0, none⟩) (n + m) (grownCap w (n + m) c 53)) (w.drew.alloc (.cells ((cur.toList.take (i * 6)).toArray ++ Builtin.zeroCells z0.cells (n + m - i) ++ Builtin.zeroCells z0.cells (grownCap w (n + m) c 53 - (n + m))) 53)) := fun ty => by
    have h := Lib.run_append_grow_zeros w 25 3 ty 53 i0 _ .i64 .i64 u25 u3 hi0 hz0 (some ⟨g, 0, none⟩) i c (cur.toList.take (i * 6)) hold (n + m - i) (by omega) (by omega) (by omega) (by omega) (by rw [hb0]; omega) (by rw [hb0, hik]; exact growslice_fits hroom hby)
    rw [hik] at h
    rw [hkk]
    exact h
  obtain ⟨G, hG⟩ : ∃ G, G = grownCap w (n + m) c 53 := ⟨_, rfl⟩
  have hGn : n + m ≤ G := by rw [hG]; exact grownCap_ge w _ _ _
  have hGm : G ≤ maxLen := by rw [hG]; exact grownCap_le_maxLen w (n + m) c 53 hmax
  have hG63 : G ≤ 9223372036854775807 := by unfold maxLen at hGm; omega
  obtain ⟨ROW, hROW⟩ : ∃ ROW : Array Value, ROW = (cur.toList.take (i * 6)).toArray ++ Builtin.zeroCells z0.cells (n + m - i) ++ Builtin.zeroCells z0.cells (G - (n + m)) := ⟨_, rfl⟩
  rw [← hG] at hrz
  rw [← hROW] at hrz
  have hl0 : (cur.toList.take (i * 6)).length = i * 6 := by simp only [List.length_take, Array.length_toList]; omega
  have hRl : ROW.size = G * 6 := by
    rw [hROW]
    simp only [Array.size_append, List.size_toArray, size_zeroCells, hz6, hl0]
    omega
  have hRt : ROW.toList.take (i * 6) = cur.toList.take (i * 6) := by
    rw [hROW]
    simp only [Array.toList_append, List.append_assoc]
    rw [List.take_append_of_le_length (by simp only [List.length_take, Array.length_toList]; omega), List.take_take, Nat.min_self]
  obtain ⟨N, hN⟩ : ∃ N, N = w.heap.size := ⟨_, rfl⟩
  obtain ⟨W1, hW1⟩ : ∃ W1, W1 = (w.alloc (.cells ROW 53)).drew := ⟨_, rfl⟩
  have hWN : W1.heap[N]? = some (.cells ROW 53 (0, 0)) := by rw [hW1, hN]; exact heap_alloc_new w _
  have hWg : W1.heap[g]? = some (.cells cur 53 (0, 0)) := by rw [hW1]; exact (heap_alloc_old w _ hbw).trans hg
  have hWv : W1.heap[vb]? = some (.cells curv 53 (0, 0)) := by rw [hW1]; exact (heap_alloc_old w _ hvw).trans hv
  have hl2 : (curv.toList.take (m * 6)).length = m * 6 := by simp only [List.length_take, Array.length_toList]; omega
  have hmin2 : Nat.min m (n + m - i) = m := by simp only [Nat.min_def]; split <;> omega
  have hcpA : ∀ ty dc, (Builtin.copy_ #[25, 25] ty #[.slice (some ⟨N, i * 6, none⟩) (n + m - i) dc, .slice (some ⟨vb, 0, none⟩) m vc]).run Tryd.prog W1 = .ok (goInt ((m : Nat) : Int)) (W1.setRow N (ROW.toList.take (i * 6) ++ curv.toList.take (m * 6) ++ ROW.toList.drop (i * 6 + (curv.toList.take (m * 6)).length)).toArray) := fun ty dc => by
    have := run_copy_rowK (P := Tryd.prog) W1 25 25 ty 53 N (i * 6) (n + m - i) dc ⟨vb, 0, none⟩ m vc ROW 53 6 (curv.toList.take (m * 6)) u25 s53 hWN (by rw [hl2, hmin2]) (by have h := cells_of_row hWv 0 (m * 6) (by omega); simpa using h) (by rw [hl2]; omega) h1v
    rw [hmin2] at this
    exact this
  rw [hl2, hRt] at hcpA
  have a2 : i * 6 + m * 6 = (i + m) * 6 := by omega
  rw [a2] at hcpA
  generalize hC : (cur.toList.take (i * 6) ++ curv.toList.take (m * 6) ++ ROW.toList.drop ((i + m) * 6)).toArray = C1 at hcpA
  have hCl : C1.size = G * 6 := by rw [← hC]; simp only [List.size_toArray, List.length_append, List.length_take, List.length_drop, Array.length_toList]; omega
  obtain ⟨W2, hW2⟩ : ∃ W2, W2 = (W1.setRow N C1).drew := ⟨_, rfl⟩
  have hgN : g ≠ N := by omega
  have hW2N : W2.heap[N]? = some (.cells C1 53 (0, 0)) := by rw [hW2]; exact setRow_heap W1 N ROW C1 53 _ hWN
  have hW2g : W2.heap[g]? = some (.cells cur 53 (0, 0)) := by rw [hW2]; exact (setRow_other W1 N g C1 hgN).trans hWg
  have hl1 : ((cur.toList.drop (i * 6)).take ((n - i) * 6)).length = (n - i) * 6 := by simp only [List.length_take, List.length_drop, Array.length_toList]; omega
  have hmin : Nat.min (n - i) (n + m - (i + m)) = n - i := by simp only [Nat.min_def]; split <;> omega
  have hcpB : ∀ ty dc sc, (Builtin.copy_ #[25, 25] ty #[.slice (some ⟨N, (i + m) * 6, none⟩) (n + m - (i + m)) dc, .slice (some ⟨g, i * 6, none⟩) (n - i) sc]).run Tryd.prog W2 = .ok (goInt ((n - i : Nat) : Int)) (W2.setRow N (C1.toList.take ((i + m) * 6) ++ (cur.toList.drop (i * 6)).take ((n - i) * 6) ++ C1.toList.drop ((i + m) * 6 + ((cur.toList.drop (i * 6)).take ((n - i) * 6)).length)).toArray) := fun ty dc sc => by
    have := run_copy_rowK (P := Tryd.prog) W2 25 25 ty 53 N ((i + m) * 6) (n + m - (i + m)) dc ⟨g, i * 6, none⟩ (n - i) sc C1 53 6 ((cur.toList.drop (i * 6)).take ((n - i) * 6)) u25 s53 hW2N (by rw [hl1, hmin]) (cells_of_row hW2g _ _ (by omega)) (by rw [hl1]; omega) h1c
    rw [hmin] at this
    exact this
  have a3 : C1.toList.take ((i + m) * 6) = cur.toList.take (i * 6) ++ curv.toList.take (m * 6) := by
    rw [← hC]
    show List.take ((i + m) * 6) (cur.toList.take (i * 6) ++ curv.toList.take (m * 6) ++ ROW.toList.drop ((i + m) * 6)) = _
    rw [List.take_append_of_le_length (by rw [List.length_append, hl0, hl2]; omega), List.take_of_length_le (by rw [List.length_append, hl0, hl2]; omega)]
  rw [a3, hl1] at hcpB
  have hT : (C1.toList.drop ((i + m) * 6 + (n - i) * 6)).length = G * 6 - (n + m) * 6 := by simp only [List.length_drop, Array.length_toList, hCl]; omega
  generalize C1.toList.drop ((i + m) * 6 + (n - i) * 6) = tail at hcpB hT
  have hGi : ¬ (G = i) := by omega
  have hGim : ¬ (G = i + m) := by omega
  have hci : ¬ (c = i) := by omega
  have hw1 : IntKind.i64.wrap ((i : Int) + (m : Int)) = (i : Int) + (m : Int) := by rw [IntKind.wrap_i64]; omega
  have hb1 : (0 : Int) ≤ (i : Int) + (m : Int) := by omega
  have hin : i ≤ n := by omega
  have htn : ((i : Int) + (m : Int)).toNat = i + m := by omega
  have hb3 : (i : Int) ≤ (n : Int) := by omega
  clear hkk hik hold hROW hG hRl hRt hC hCl a2 a3 hWN hWg hWv hW2N hW2g
  subst hW2
  subst hW1
  subst hN
  go_enter Tryd.func66, Tryd.ntmps66
  go_wp2_with (first
    | (at_builtin; refine Lib.wpList_append_run _ rfl _ _ _ _ rfl _ _ rfl rfl _ _ (hrz _) ?_)
    | (at_builtin; refine wpList_copy_runI _ rfl _ _ 25 25 rfl _ _ rfl rfl (hcpA _ _) ?_))
  go_region_law_o (refine step_copy_runI rfl _ _ 25 25 rfl (.slice (some ⟨w.heap.size, (i + m) * 6, none⟩) (n + m - (i + m)) (G - (i + m))) (.slice (some ⟨g, i * 6, none⟩) (n - i) (c - i)) (by simp [Act.eval, Act.put]) (by simp [Act.eval, Act.put]) (hcpB 3 (G - (i + m)) (c - i)) ?_)
  go_wp2
  go_ret
  refine ⟨G, tail, rfl, hGn, hGm, 2, ROW, ?_, by omega⟩
  show ((w.alloc (.cells ROW 53)).drew.drew.setRow w.heap.size C1).setRow w.heap.size _ = _
  rw [setRow_setRow]
  simp only [List.append_assoc]
  rfl
theorem roads : InsRoads Tryd.prog 66 53 (width KK) 64 :=
  ⟨fun g n c i vb m vc cur curv w h1 h2 h3 h4 h5 h6 h7 h8 h9 h10 h11 h12 => ins_shift g n c i vb m vc cur curv w h1 h2 h3 h4 h5 h6 h7 h8 h9 h10 h11 h12,
   fun u n vb m vc xs curv w h1 h2 h3 h4 h5 h6 h7 h8 h9 => ins_end u n vb m vc xs curv w h1 h2 h3 h4 h5 h6 h7 h8 h9,
   fun g n c i vb m vc cur curv w h1 h2 h3 h4 h5 h6 h7 h8 h9 h10 h11 h12 h13 => ins_grow g n c i vb m vc cur curv w h1 h2 h3 h4 h5 h6 h7 h8 h9 h10 h11 h12 h13⟩
end Go.Proofs.YtaenobdphjindaaDoor.Ins66
