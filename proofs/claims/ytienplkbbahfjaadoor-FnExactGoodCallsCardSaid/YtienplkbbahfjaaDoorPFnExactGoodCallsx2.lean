-- Written by a program of this session (wip/mk.py) over the kit's print. Not trusted: Lean checks it.
import Derived.Test.YtienplkbbahfjaaDoorPFnExactGoodCallsx0
import Derived.Test.YtienplkbbahfjaaDoorPFnExactGoodCallsx1
namespace Go.Proofs.YtienplkbbahfjaaDoor.PFnExactGoodCalls
open Go.RowKit Go.Proofs.YtienplkbbahfjaaDoorW.PrintWords Go.Proofs.YtienplkbbahfjaaDoorW.PrintLast Go.Proofs.YtienplkbbahfjaaDoorW.PrintMore
attribute [local go_sem] max2_int min2_int max_two min_two max_three min_three max_four min_four   -- for this text's walks alone
open Go.Proofs.YtienplkbbahfjaaDoor.MapW
set_option linter.unusedVariables false
set_option linter.unusedSimpArgs false

/-! ### spec_GoodCalls: function 10 -/
mutual
def spec_GoodCalls.l0 : Nat → List (S46) → List (S46) → Int → Int → Option (Bool)
  | 0, _, _, _, _ => none
  | k + 1, x0, x7, x8, x9 => if x9 < x8 then (if 0 ≤ x9 then (if x9 < (x7.length : Int) then ((spec_l1In.f ((rd_T46 x7 x9).f0) 0 9).bind fun t109 => (if t109 = true then ((spec_l1Key.f k ((rd_T46 x7 x9).f2)).bind fun t110 => (if t110 = true then ((spec_l1Value.f k ((rd_T46 x7 x9).f3)).bind fun t111 => (if t111 = true then (if ((rd_T46 x7 x9).f4) < 0 then (spec_GoodCalls.j1 k x0 x9 x7 x8 x9 true ((rd_T46 x7 x9).f0) ((rd_T46 x7 x9).f1) ((rd_T46 x7 x9).f2) ((rd_T46 x7 x9).f3) ((rd_T46 x7 x9).f4) ((rd_T46 x7 x9).f5)) else (if ((rd_T46 x7 x9).f5) ≤ ((rd_T46 x7 x9).f4) then (spec_GoodCalls.j1 k x0 x9 x7 x8 x9 true ((rd_T46 x7 x9).f0) ((rd_T46 x7 x9).f1) ((rd_T46 x7 x9).f2) ((rd_T46 x7 x9).f3) ((rd_T46 x7 x9).f4) ((rd_T46 x7 x9).f5)) else (spec_GoodCalls.j1 k x0 x9 x7 x8 x9 (decide (((rd_T46 x7 x9).f5) ≥ 1000000)) ((rd_T46 x7 x9).f0) ((rd_T46 x7 x9).f1) ((rd_T46 x7 x9).f2) ((rd_T46 x7 x9).f3) ((rd_T46 x7 x9).f4) ((rd_T46 x7 x9).f5)))) else (spec_GoodCalls.j1 k x0 x9 x7 x8 x9 true ((rd_T46 x7 x9).f0) ((rd_T46 x7 x9).f1) ((rd_T46 x7 x9).f2) ((rd_T46 x7 x9).f3) ((rd_T46 x7 x9).f4) ((rd_T46 x7 x9).f5)))) else (spec_GoodCalls.j1 k x0 x9 x7 x8 x9 true ((rd_T46 x7 x9).f0) ((rd_T46 x7 x9).f1) ((rd_T46 x7 x9).f2) ((rd_T46 x7 x9).f3) ((rd_T46 x7 x9).f4) ((rd_T46 x7 x9).f5)))) else (spec_GoodCalls.j1 k x0 x9 x7 x8 x9 true ((rd_T46 x7 x9).f0) ((rd_T46 x7 x9).f1) ((rd_T46 x7 x9).f2) ((rd_T46 x7 x9).f3) ((rd_T46 x7 x9).f4) ((rd_T46 x7 x9).f5)))) else (none)) else (none)) else (some (decide ((x0.length : Int) ≤ 7)))
def spec_GoodCalls.j1 : Nat → List (S46) → Int → List (S46) → Int → Int → Bool → Int → Bool → ByteArray → ByteArray → Int → Int → Option (Bool)
  | 0, _, _, _, _, _, _, _, _, _, _, _, _ => none
  | k + 1, x0, x3, x7, x8, x9, x46, x109000, x109001, x109002, x109003, x109004, x109005 => if x46 = true then (some false) else (if 0 ≤ x3 then (if x3 ≤ (x0.length : Int) then ((some (x0.take (x3 : Int).toNat : List (S46))).bind fun y112 => (spec_GoodCalls.l1 k x0 x7 x8 x9 y112 (y112.length : Int) 0 x109000 x109001 x109002 x109003 x109004 x109005)) else (none)) else (none))
def spec_GoodCalls.l1 : Nat → List (S46) → List (S46) → Int → Int → List (S46) → Int → Int → Int → Bool → ByteArray → ByteArray → Int → Int → Option (Bool)
  | 0, _, _, _, _, _, _, _, _, _, _, _, _, _ => none
  | k + 1, x0, x7, x8, x9, x49, x50, x51, x109000, x109001, x109002, x109003, x109004, x109005 => if x51 < x50 then (if 0 ≤ x51 then (if x51 < (x49.length : Int) then (if ((rd_T46 x49 x51).f4) = x109004 then (some false) else (if ((rd_T46 x49 x51).f4) = x109005 then (some false) else (if ((rd_T46 x49 x51).f5) = x109004 then (some false) else (if ((rd_T46 x49 x51).f5) = x109005 then (some false) else (if ((rd_T46 x49 x51).f0) = x109000 then ((spec_l7Overlap.f ((rd_T46 x49 x51).f0) ((rd_T46 x49 x51).f1) ((rd_T46 x49 x51).f2) ((rd_T46 x49 x51).f3) ((rd_T46 x49 x51).f4) ((rd_T46 x49 x51).f5) x109000 x109001 x109002 x109003 x109004 x109005).bind fun t118 => (if t118 = true then (some false) else (spec_GoodCalls.l1 k x0 x7 x8 x9 x49 x50 (wrap64 (x51 + 1)) x109000 x109001 x109002 x109003 x109004 x109005))) else (spec_GoodCalls.l1 k x0 x7 x8 x9 x49 x50 (wrap64 (x51 + 1)) x109000 x109001 x109002 x109003 x109004 x109005)))))) else (none)) else (none)) else (spec_GoodCalls.l0 k x0 x7 x8 (wrap64 (x9 + 1)))
end
def spec_GoodCalls.f (k : Nat) (l0 : List (S46)) : Option (Bool) := spec_GoodCalls.l0 k l0 l0 (l0.length : Int) 0
theorem spec_GoodCalls.mono_l : ∀ k, (∀ y0 y1 y2 y3, LeO (spec_GoodCalls.l0 k y0 y1 y2 y3) (spec_GoodCalls.l0 (k + 1) y0 y1 y2 y3)) ∧ (∀ y0 y1 y2 y3 y4 y5 y6 y7 y8 y9 y10 y11, LeO (spec_GoodCalls.j1 k y0 y1 y2 y3 y4 y5 y6 y7 y8 y9 y10 y11) (spec_GoodCalls.j1 (k + 1) y0 y1 y2 y3 y4 y5 y6 y7 y8 y9 y10 y11)) ∧ (∀ y0 y1 y2 y3 y4 y5 y6 y7 y8 y9 y10 y11 y12, LeO (spec_GoodCalls.l1 k y0 y1 y2 y3 y4 y5 y6 y7 y8 y9 y10 y11 y12) (spec_GoodCalls.l1 (k + 1) y0 y1 y2 y3 y4 y5 y6 y7 y8 y9 y10 y11 y12))
  | 0 => ⟨fun _ _ _ _ r h => by simp [spec_GoodCalls.l0] at h, fun _ _ _ _ _ _ _ _ _ _ _ _ r h => by simp [spec_GoodCalls.j1] at h, fun _ _ _ _ _ _ _ _ _ _ _ _ _ r h => by simp [spec_GoodCalls.l1] at h⟩
  | k + 1 => by
    obtain ⟨ih0, ih1, ih2⟩ := spec_GoodCalls.mono_l k
    refine ⟨?_, ?_, ?_⟩
    · intro y0 y1 y2 y3
      unfold spec_GoodCalls.l0
      repeat' first
      | (with_reducible exact ih0 _ _ _ _)
      | (with_reducible exact ih1 _ _ _ _ _ _ _ _ _ _ _ _)
      | (with_reducible exact ih2 _ _ _ _ _ _ _ _ _ _ _ _ _)
      | (with_reducible exact spec_l1Key.mono _ _)
      | (with_reducible exact spec_l1Value.mono _ _)
      | (with_reducible exact LeO.refl _)
      | (with_reducible exact LeO.none _)
      | (with_reducible refine LeO.ite ?_ ?_)
      | (with_reducible refine LeO.bind ?_ (fun _ => ?_))
      | exact ih0 _ _ _ _
      | exact ih1 _ _ _ _ _ _ _ _ _ _ _ _
      | exact ih2 _ _ _ _ _ _ _ _ _ _ _ _ _
      | exact spec_l1Key.mono _ _
      | exact spec_l1Value.mono _ _
      | exact LeO.none _
      | refine LeO.ite ?_ ?_
      | refine LeO.bind ?_ (fun _ => ?_)
    · intro y0 y1 y2 y3 y4 y5 y6 y7 y8 y9 y10 y11
      unfold spec_GoodCalls.j1
      repeat' first
      | (with_reducible exact ih0 _ _ _ _)
      | (with_reducible exact ih1 _ _ _ _ _ _ _ _ _ _ _ _)
      | (with_reducible exact ih2 _ _ _ _ _ _ _ _ _ _ _ _ _)
      | (with_reducible exact spec_l1Key.mono _ _)
      | (with_reducible exact spec_l1Value.mono _ _)
      | (with_reducible exact LeO.refl _)
      | (with_reducible exact LeO.none _)
      | (with_reducible refine LeO.ite ?_ ?_)
      | (with_reducible refine LeO.bind ?_ (fun _ => ?_))
      | exact ih0 _ _ _ _
      | exact ih1 _ _ _ _ _ _ _ _ _ _ _ _
      | exact ih2 _ _ _ _ _ _ _ _ _ _ _ _ _
      | exact spec_l1Key.mono _ _
      | exact spec_l1Value.mono _ _
      | exact LeO.none _
      | refine LeO.ite ?_ ?_
      | refine LeO.bind ?_ (fun _ => ?_)
    · intro y0 y1 y2 y3 y4 y5 y6 y7 y8 y9 y10 y11 y12
      unfold spec_GoodCalls.l1
      repeat' first
      | (with_reducible exact ih0 _ _ _ _)
      | (with_reducible exact ih1 _ _ _ _ _ _ _ _ _ _ _ _)
      | (with_reducible exact ih2 _ _ _ _ _ _ _ _ _ _ _ _ _)
      | (with_reducible exact spec_l1Key.mono _ _)
      | (with_reducible exact spec_l1Value.mono _ _)
      | (with_reducible exact LeO.refl _)
      | (with_reducible exact LeO.none _)
      | (with_reducible refine LeO.ite ?_ ?_)
      | (with_reducible refine LeO.bind ?_ (fun _ => ?_))
      | exact ih0 _ _ _ _
      | exact ih1 _ _ _ _ _ _ _ _ _ _ _ _
      | exact ih2 _ _ _ _ _ _ _ _ _ _ _ _ _
      | exact spec_l1Key.mono _ _
      | exact spec_l1Value.mono _ _
      | exact LeO.none _
      | refine LeO.ite ?_ ?_
      | refine LeO.bind ?_ (fun _ => ?_)
theorem spec_GoodCalls.mono : ∀ a0 k, LeO (spec_GoodCalls.f k a0) (spec_GoodCalls.f (k + 1) a0) := by
  intro a0 k
  obtain ⟨ih0, ih1, ih2⟩ := spec_GoodCalls.mono_l k
  unfold spec_GoodCalls.f
  repeat' first
      | (with_reducible exact ih0 _ _ _ _)
      | (with_reducible exact ih1 _ _ _ _ _ _ _ _ _ _ _ _)
      | (with_reducible exact ih2 _ _ _ _ _ _ _ _ _ _ _ _ _)
      | (with_reducible exact spec_l1Key.mono _ _)
      | (with_reducible exact spec_l1Value.mono _ _)
      | (with_reducible exact LeO.refl _)
      | (with_reducible exact LeO.none _)
      | (with_reducible refine LeO.ite ?_ ?_)
      | (with_reducible refine LeO.bind ?_ (fun _ => ?_))
      | exact ih0 _ _ _ _
      | exact ih1 _ _ _ _ _ _ _ _ _ _ _ _
      | exact ih2 _ _ _ _ _ _ _ _ _ _ _ _ _
      | exact spec_l1Key.mono _ _
      | exact spec_l1Value.mono _ _
      | exact LeO.none _
      | refine LeO.ite ?_ ?_
      | refine LeO.bind ?_ (fun _ => ?_)
set_option maxHeartbeats 8000000 in
set_option maxRecDepth 100000 in
theorem spec_GoodCalls.calls (k : Nat) (A0 : Option Addr) (c0 : Nat) (l0 : List (S46)) (r : Bool) (w : World) (hr0 : Kd.C k46 w A0 l0.length l0) (hc0 : l0.length ≤ c0) (h : spec_GoodCalls.f k l0 = some r) :
    Calls Tryd.prog 10 #[.slice A0 l0.length c0] w fun e w' => e = .returned (.bool r) ∧ Below w.heap.size w w' := by
  have hu46 := Tryd.underlying46
  have HR0 := Aside0.mk hr0
  have HC0 := Aside0.mk hc0
  clear hr0 hc0
  have HB := Aside0.mk (Below.refl w.heap.size w)
  have H : (spec_GoodCalls.l0 k l0 l0 (l0.length : Int) 0) = some r := h
  clear h
  have H' := Aside0.mk H
  clear H
  go_enter Tryd.func10, Tryd.ntmps10
  go_wp2
  go_loopg [9] k (fun kq v9 w' => ∃ (x9_1 : Int), v9 = .int .i64 x9_1 ∧ Aside0 (spec_GoodCalls.l0 kq l0 l0 (l0.length : Int) x9_1 = some r) ∧ Aside0 (kq ≤ k) ∧ Aside0 (Below w.heap.size w w'))
  case atStart => exact ⟨(0), (by first | rfl | (simp; done) | (simp [*]; done)), H', ⟨Nat.le_refl _⟩, ⟨by repeat (first | (with_reducible first | exact HB.out | apply below_alloc | apply pw_below_drewN | apply below_drew1) | exact HB.out)⟩⟩
  case round =>
    clear H'
    try clear c1
    obtain ⟨x9_1, rfl, HA, HK1, HB⟩ := hrel
    cases gk with
    | zero => exact absurd HA.out (by simp [spec_GoodCalls.l0])
    | succ k1 =>
      have H := HA.out
      clear HA
      simp only [spec_GoodCalls.l0] at H
      by_cases c2 : x9_1 < (l0.length : Int)
      · rw [if_pos c2] at H
        have c2b0 : decide (x9_1 < (l0.length : Int)) = true := decide_eq_true c2
        clear c2
        by_cases c3 : 0 ≤ x9_1
        · rw [if_pos c3] at H
          have c3b0 : decide (0 ≤ x9_1) = true := decide_eq_true c3
          clear c3
          by_cases c4 : x9_1 < (l0.length : Int)
          · rw [if_pos c4] at H
            have c4b0 : decide (x9_1 < (l0.length : Int)) = true := decide_eq_true c4
            clear c4
            have HC5 := Aside0.mk H
            clear H
            have p107 : 0 ≤ (x9_1 : Int) := of_decide_eq_true (by first | (with_reducible assumption) | assumption)
            have q107 : x9_1 < (l0.length : Int) := of_decide_eq_true (by first | (with_reducible assumption) | assumption)
            obtain ⟨ad107, e107, hx107_0, hx107_1, hx107_2, hx107_3, hx107_4, hx107_5⟩ := at_T46 HR0.out x9_1 p107 q107
            cases e107
            replace hx107_0 := (HB.out.cell (World.block_lt_of_cell? w _ hx107_0)).trans hx107_0
            replace hx107_1 := (HB.out.cell (World.block_lt_of_cell? w _ hx107_1)).trans hx107_1
            replace hx107_2 := (HB.out.cell (World.block_lt_of_cell? w _ hx107_2)).trans hx107_2
            replace hx107_3 := (HB.out.cell (World.block_lt_of_cell? w _ hx107_3)).trans hx107_3
            replace hx107_4 := (HB.out.cell (World.block_lt_of_cell? w _ hx107_4)).trans hx107_4
            replace hx107_5 := (HB.out.cell (World.block_lt_of_cell? w _ hx107_5)).trans hx107_5
            replace p107 := eq_true p107
            replace q107 := eq_true q107
            go_upto_region 4 with (first | ((with_reducible refine gate_dst (N := 4) rfl ?_); refine box_event ?hg (N := 4) ?hd (cs := #[.int .i64 0, .bool false, .string (⟨#[]⟩ : ByteArray), .string (⟨#[]⟩ : ByteArray), .int .i64 0, .int .i64 0]) (t := 46) ?hr ?_; (case hd => rfl); (case hg => rfl); (case hr => first | (go_simp; done) | (go_simp; rfl)); intro gb108 hg w6 hbox hb; have n0_ := Aside0.mk (below_step (by repeat (first | (with_reducible first | exact HB.out | apply below_alloc | apply pw_below_drewN | apply below_drew1) | exact HB.out)) hb); have n1_ := Aside0.mk (hbox); have n2_ := Aside0.mk ((by rw [hg]; exact (below_size (by repeat (first | (with_reducible first | exact HB.out | apply below_alloc | apply pw_below_drewN | apply below_drew1) | exact HB.out))) : w.heap.size ≤ gb108)); have n3_ := Aside0.mk ((by rw [hg]; exact (below_size (by repeat (first | (with_reducible first | exact HB.out | apply below_alloc | apply pw_below_drewN | apply below_drew1) | exact HB.out))) : w.heap.size ≤ gb108)); clear HB; have HB := n0_; have BK108 := n1_; have GW108 := n2_; have GE108 := n3_; clear n0_ n1_ n2_ n3_; clear hb hbox hg; have hcz7_0 : w6.cell? ⟨gb108, 0, none⟩ = some (.int .i64 0) := (blk_cell BK108.out 0).trans rfl; have hcz7_1 : w6.cell? ⟨gb108, 1, none⟩ = some (.bool false) := (blk_cell BK108.out 1).trans rfl; have hcz7_2 : w6.cell? ⟨gb108, 2, none⟩ = some (.string (⟨#[]⟩ : ByteArray)) := (blk_cell BK108.out 2).trans rfl; have hcz7_3 : w6.cell? ⟨gb108, 3, none⟩ = some (.string (⟨#[]⟩ : ByteArray)) := (blk_cell BK108.out 3).trans rfl; have hcz7_4 : w6.cell? ⟨gb108, 4, none⟩ = some (.int .i64 0) := (blk_cell BK108.out 4).trans rfl; have hcz7_5 : w6.cell? ⟨gb108, 5, none⟩ = some (.int .i64 0) := (blk_cell BK108.out 5).trans rfl; have hfz7_0 := blk_frozen BK108.out 0; have hfz7_1 := blk_frozen BK108.out 1; have hfz7_2 := blk_frozen BK108.out 2; have hfz7_3 := blk_frozen BK108.out 3; have hfz7_4 := blk_frozen BK108.out 4; have hfz7_5 := blk_frozen BK108.out 5))
            (try simp only [Act.put, List.setIfInBounds_toArray, List.set_cons_zero, List.set_cons_succ])
            go_cut [46] (fun v46 wc => ∃ (kq : Nat) (x46_4 : Bool), v46 = .bool x46_4 ∧ Aside0 (spec_GoodCalls.j1 kq l0 x9_1 l0 (l0.length : Int) x9_1 x46_4 ((rd_T46 l0 x9_1).f0) ((rd_T46 l0 x9_1).f1) ((rd_T46 l0 x9_1).f2) ((rd_T46 l0 x9_1).f3) ((rd_T46 l0 x9_1).f4) ((rd_T46 l0 x9_1).f5) = some r) ∧ Aside0 (kq ≤ k1) ∧ Aside0 (wc.heap[gb108]? = some (.cells #[.int .i64 ((rd_T46 l0 x9_1).f0), .bool ((rd_T46 l0 x9_1).f1), .string ((rd_T46 l0 x9_1).f2), .string ((rd_T46 l0 x9_1).f3), .int .i64 ((rd_T46 l0 x9_1).f4), .int .i64 ((rd_T46 l0 x9_1).f5)] 46 (0, 0))) ∧ Aside0 (Below w.heap.size w wc))
            case first =>
              have H := HC5.out
              clear HC5
              replace H := Option.bind_eq_some_iff.mp H
              obtain ⟨t109, A80, H⟩ := H
              replace H : (if t109 = true then ((spec_l1Key.f k1 ((rd_T46 l0 x9_1).f2)).bind fun t110 => (if t110 = true then ((spec_l1Value.f k1 ((rd_T46 l0 x9_1).f3)).bind fun t111 => (if t111 = true then (if ((rd_T46 l0 x9_1).f4) < 0 then (spec_GoodCalls.j1 k1 l0 x9_1 l0 (l0.length : Int) x9_1 true ((rd_T46 l0 x9_1).f0) ((rd_T46 l0 x9_1).f1) ((rd_T46 l0 x9_1).f2) ((rd_T46 l0 x9_1).f3) ((rd_T46 l0 x9_1).f4) ((rd_T46 l0 x9_1).f5)) else (if ((rd_T46 l0 x9_1).f5) ≤ ((rd_T46 l0 x9_1).f4) then (spec_GoodCalls.j1 k1 l0 x9_1 l0 (l0.length : Int) x9_1 true ((rd_T46 l0 x9_1).f0) ((rd_T46 l0 x9_1).f1) ((rd_T46 l0 x9_1).f2) ((rd_T46 l0 x9_1).f3) ((rd_T46 l0 x9_1).f4) ((rd_T46 l0 x9_1).f5)) else (spec_GoodCalls.j1 k1 l0 x9_1 l0 (l0.length : Int) x9_1 (decide (((rd_T46 l0 x9_1).f5) ≥ 1000000)) ((rd_T46 l0 x9_1).f0) ((rd_T46 l0 x9_1).f1) ((rd_T46 l0 x9_1).f2) ((rd_T46 l0 x9_1).f3) ((rd_T46 l0 x9_1).f4) ((rd_T46 l0 x9_1).f5)))) else (spec_GoodCalls.j1 k1 l0 x9_1 l0 (l0.length : Int) x9_1 true ((rd_T46 l0 x9_1).f0) ((rd_T46 l0 x9_1).f1) ((rd_T46 l0 x9_1).f2) ((rd_T46 l0 x9_1).f3) ((rd_T46 l0 x9_1).f4) ((rd_T46 l0 x9_1).f5)))) else (spec_GoodCalls.j1 k1 l0 x9_1 l0 (l0.length : Int) x9_1 true ((rd_T46 l0 x9_1).f0) ((rd_T46 l0 x9_1).f1) ((rd_T46 l0 x9_1).f2) ((rd_T46 l0 x9_1).f3) ((rd_T46 l0 x9_1).f4) ((rd_T46 l0 x9_1).f5)))) else (spec_GoodCalls.j1 k1 l0 x9_1 l0 (l0.length : Int) x9_1 true ((rd_T46 l0 x9_1).f0) ((rd_T46 l0 x9_1).f1) ((rd_T46 l0 x9_1).f2) ((rd_T46 l0 x9_1).f3) ((rd_T46 l0 x9_1).f4) ((rd_T46 l0 x9_1).f5))) = some r := H
              have A8 := Aside0.mk A80
              clear A80
              by_cases c9 : t109 = true
              · subst c9
                have H1 : ((spec_l1Key.f k1 ((rd_T46 l0 x9_1).f2)).bind fun t110 => (if t110 = true then ((spec_l1Value.f k1 ((rd_T46 l0 x9_1).f3)).bind fun t111 => (if t111 = true then (if ((rd_T46 l0 x9_1).f4) < 0 then (spec_GoodCalls.j1 k1 l0 x9_1 l0 (l0.length : Int) x9_1 true ((rd_T46 l0 x9_1).f0) ((rd_T46 l0 x9_1).f1) ((rd_T46 l0 x9_1).f2) ((rd_T46 l0 x9_1).f3) ((rd_T46 l0 x9_1).f4) ((rd_T46 l0 x9_1).f5)) else (if ((rd_T46 l0 x9_1).f5) ≤ ((rd_T46 l0 x9_1).f4) then (spec_GoodCalls.j1 k1 l0 x9_1 l0 (l0.length : Int) x9_1 true ((rd_T46 l0 x9_1).f0) ((rd_T46 l0 x9_1).f1) ((rd_T46 l0 x9_1).f2) ((rd_T46 l0 x9_1).f3) ((rd_T46 l0 x9_1).f4) ((rd_T46 l0 x9_1).f5)) else (spec_GoodCalls.j1 k1 l0 x9_1 l0 (l0.length : Int) x9_1 (decide (((rd_T46 l0 x9_1).f5) ≥ 1000000)) ((rd_T46 l0 x9_1).f0) ((rd_T46 l0 x9_1).f1) ((rd_T46 l0 x9_1).f2) ((rd_T46 l0 x9_1).f3) ((rd_T46 l0 x9_1).f4) ((rd_T46 l0 x9_1).f5)))) else (spec_GoodCalls.j1 k1 l0 x9_1 l0 (l0.length : Int) x9_1 true ((rd_T46 l0 x9_1).f0) ((rd_T46 l0 x9_1).f1) ((rd_T46 l0 x9_1).f2) ((rd_T46 l0 x9_1).f3) ((rd_T46 l0 x9_1).f4) ((rd_T46 l0 x9_1).f5)))) else (spec_GoodCalls.j1 k1 l0 x9_1 l0 (l0.length : Int) x9_1 true ((rd_T46 l0 x9_1).f0) ((rd_T46 l0 x9_1).f1) ((rd_T46 l0 x9_1).f2) ((rd_T46 l0 x9_1).f3) ((rd_T46 l0 x9_1).f4) ((rd_T46 l0 x9_1).f5)))) = some r := by rw [if_pos rfl] at H; exact H
                clear H
                have H := H1
                clear H1
                replace H := Option.bind_eq_some_iff.mp H
                obtain ⟨t110, A100, H⟩ := H
                replace H : (if t110 = true then ((spec_l1Value.f k1 ((rd_T46 l0 x9_1).f3)).bind fun t111 => (if t111 = true then (if ((rd_T46 l0 x9_1).f4) < 0 then (spec_GoodCalls.j1 k1 l0 x9_1 l0 (l0.length : Int) x9_1 true ((rd_T46 l0 x9_1).f0) ((rd_T46 l0 x9_1).f1) ((rd_T46 l0 x9_1).f2) ((rd_T46 l0 x9_1).f3) ((rd_T46 l0 x9_1).f4) ((rd_T46 l0 x9_1).f5)) else (if ((rd_T46 l0 x9_1).f5) ≤ ((rd_T46 l0 x9_1).f4) then (spec_GoodCalls.j1 k1 l0 x9_1 l0 (l0.length : Int) x9_1 true ((rd_T46 l0 x9_1).f0) ((rd_T46 l0 x9_1).f1) ((rd_T46 l0 x9_1).f2) ((rd_T46 l0 x9_1).f3) ((rd_T46 l0 x9_1).f4) ((rd_T46 l0 x9_1).f5)) else (spec_GoodCalls.j1 k1 l0 x9_1 l0 (l0.length : Int) x9_1 (decide (((rd_T46 l0 x9_1).f5) ≥ 1000000)) ((rd_T46 l0 x9_1).f0) ((rd_T46 l0 x9_1).f1) ((rd_T46 l0 x9_1).f2) ((rd_T46 l0 x9_1).f3) ((rd_T46 l0 x9_1).f4) ((rd_T46 l0 x9_1).f5)))) else (spec_GoodCalls.j1 k1 l0 x9_1 l0 (l0.length : Int) x9_1 true ((rd_T46 l0 x9_1).f0) ((rd_T46 l0 x9_1).f1) ((rd_T46 l0 x9_1).f2) ((rd_T46 l0 x9_1).f3) ((rd_T46 l0 x9_1).f4) ((rd_T46 l0 x9_1).f5)))) else (spec_GoodCalls.j1 k1 l0 x9_1 l0 (l0.length : Int) x9_1 true ((rd_T46 l0 x9_1).f0) ((rd_T46 l0 x9_1).f1) ((rd_T46 l0 x9_1).f2) ((rd_T46 l0 x9_1).f3) ((rd_T46 l0 x9_1).f4) ((rd_T46 l0 x9_1).f5))) = some r := H
                have A10 := Aside0.mk A100
                clear A100
                by_cases c11 : t110 = true
                · subst c11
                  have H1 : ((spec_l1Value.f k1 ((rd_T46 l0 x9_1).f3)).bind fun t111 => (if t111 = true then (if ((rd_T46 l0 x9_1).f4) < 0 then (spec_GoodCalls.j1 k1 l0 x9_1 l0 (l0.length : Int) x9_1 true ((rd_T46 l0 x9_1).f0) ((rd_T46 l0 x9_1).f1) ((rd_T46 l0 x9_1).f2) ((rd_T46 l0 x9_1).f3) ((rd_T46 l0 x9_1).f4) ((rd_T46 l0 x9_1).f5)) else (if ((rd_T46 l0 x9_1).f5) ≤ ((rd_T46 l0 x9_1).f4) then (spec_GoodCalls.j1 k1 l0 x9_1 l0 (l0.length : Int) x9_1 true ((rd_T46 l0 x9_1).f0) ((rd_T46 l0 x9_1).f1) ((rd_T46 l0 x9_1).f2) ((rd_T46 l0 x9_1).f3) ((rd_T46 l0 x9_1).f4) ((rd_T46 l0 x9_1).f5)) else (spec_GoodCalls.j1 k1 l0 x9_1 l0 (l0.length : Int) x9_1 (decide (((rd_T46 l0 x9_1).f5) ≥ 1000000)) ((rd_T46 l0 x9_1).f0) ((rd_T46 l0 x9_1).f1) ((rd_T46 l0 x9_1).f2) ((rd_T46 l0 x9_1).f3) ((rd_T46 l0 x9_1).f4) ((rd_T46 l0 x9_1).f5)))) else (spec_GoodCalls.j1 k1 l0 x9_1 l0 (l0.length : Int) x9_1 true ((rd_T46 l0 x9_1).f0) ((rd_T46 l0 x9_1).f1) ((rd_T46 l0 x9_1).f2) ((rd_T46 l0 x9_1).f3) ((rd_T46 l0 x9_1).f4) ((rd_T46 l0 x9_1).f5)))) = some r := by rw [if_pos rfl] at H; exact H
                  clear H
                  have H := H1
                  clear H1
                  replace H := Option.bind_eq_some_iff.mp H
                  obtain ⟨t111, A120, H⟩ := H
                  replace H : (if t111 = true then (if ((rd_T46 l0 x9_1).f4) < 0 then (spec_GoodCalls.j1 k1 l0 x9_1 l0 (l0.length : Int) x9_1 true ((rd_T46 l0 x9_1).f0) ((rd_T46 l0 x9_1).f1) ((rd_T46 l0 x9_1).f2) ((rd_T46 l0 x9_1).f3) ((rd_T46 l0 x9_1).f4) ((rd_T46 l0 x9_1).f5)) else (if ((rd_T46 l0 x9_1).f5) ≤ ((rd_T46 l0 x9_1).f4) then (spec_GoodCalls.j1 k1 l0 x9_1 l0 (l0.length : Int) x9_1 true ((rd_T46 l0 x9_1).f0) ((rd_T46 l0 x9_1).f1) ((rd_T46 l0 x9_1).f2) ((rd_T46 l0 x9_1).f3) ((rd_T46 l0 x9_1).f4) ((rd_T46 l0 x9_1).f5)) else (spec_GoodCalls.j1 k1 l0 x9_1 l0 (l0.length : Int) x9_1 (decide (((rd_T46 l0 x9_1).f5) ≥ 1000000)) ((rd_T46 l0 x9_1).f0) ((rd_T46 l0 x9_1).f1) ((rd_T46 l0 x9_1).f2) ((rd_T46 l0 x9_1).f3) ((rd_T46 l0 x9_1).f4) ((rd_T46 l0 x9_1).f5)))) else (spec_GoodCalls.j1 k1 l0 x9_1 l0 (l0.length : Int) x9_1 true ((rd_T46 l0 x9_1).f0) ((rd_T46 l0 x9_1).f1) ((rd_T46 l0 x9_1).f2) ((rd_T46 l0 x9_1).f3) ((rd_T46 l0 x9_1).f4) ((rd_T46 l0 x9_1).f5))) = some r := H
                  have A12 := Aside0.mk A120
                  clear A120
                  by_cases c13 : t111 = true
                  · subst c13
                    have H1 : (if ((rd_T46 l0 x9_1).f4) < 0 then (spec_GoodCalls.j1 k1 l0 x9_1 l0 (l0.length : Int) x9_1 true ((rd_T46 l0 x9_1).f0) ((rd_T46 l0 x9_1).f1) ((rd_T46 l0 x9_1).f2) ((rd_T46 l0 x9_1).f3) ((rd_T46 l0 x9_1).f4) ((rd_T46 l0 x9_1).f5)) else (if ((rd_T46 l0 x9_1).f5) ≤ ((rd_T46 l0 x9_1).f4) then (spec_GoodCalls.j1 k1 l0 x9_1 l0 (l0.length : Int) x9_1 true ((rd_T46 l0 x9_1).f0) ((rd_T46 l0 x9_1).f1) ((rd_T46 l0 x9_1).f2) ((rd_T46 l0 x9_1).f3) ((rd_T46 l0 x9_1).f4) ((rd_T46 l0 x9_1).f5)) else (spec_GoodCalls.j1 k1 l0 x9_1 l0 (l0.length : Int) x9_1 (decide (((rd_T46 l0 x9_1).f5) ≥ 1000000)) ((rd_T46 l0 x9_1).f0) ((rd_T46 l0 x9_1).f1) ((rd_T46 l0 x9_1).f2) ((rd_T46 l0 x9_1).f3) ((rd_T46 l0 x9_1).f4) ((rd_T46 l0 x9_1).f5)))) = some r := by rw [if_pos rfl] at H; exact H
                    clear H
                    have H := H1
                    clear H1
                    by_cases c14 : ((rd_T46 l0 x9_1).f4) < 0
                    · rw [if_pos c14] at H
                      have c14b0 : decide (((rd_T46 l0 x9_1).f4) < 0) = true := decide_eq_true c14
                      clear c14
                      (first | rw [c14b0] | (simp only [i64_w, i32_w]; rw [c14b0]) | skip)
                      have H' := Aside0.mk H
                      clear H
                      have hcz15_0 : w6.cell? ⟨gb108, 0, none⟩ = some (.int .i64 0) := (blk_cell BK108.out 0).trans rfl
                      have hcz15_1 : w6.cell? ⟨gb108, 1, none⟩ = some (.bool false) := (blk_cell BK108.out 1).trans rfl
                      have hcz15_2 : w6.cell? ⟨gb108, 2, none⟩ = some (.string (⟨#[]⟩ : ByteArray)) := (blk_cell BK108.out 2).trans rfl
                      have hcz15_3 : w6.cell? ⟨gb108, 3, none⟩ = some (.string (⟨#[]⟩ : ByteArray)) := (blk_cell BK108.out 3).trans rfl
                      have hcz15_4 : w6.cell? ⟨gb108, 4, none⟩ = some (.int .i64 0) := (blk_cell BK108.out 4).trans rfl
                      have hcz15_5 : w6.cell? ⟨gb108, 5, none⟩ = some (.int .i64 0) := (blk_cell BK108.out 5).trans rfl
                      have hfz15_0 := blk_frozen BK108.out 0
                      have hfz15_1 := blk_frozen BK108.out 1
                      have hfz15_2 := blk_frozen BK108.out 2
                      have hfz15_3 := blk_frozen BK108.out 3
                      have hfz15_4 := blk_frozen BK108.out 4
                      have hfz15_5 := blk_frozen BK108.out 5
                      go_wp2_with (first | ((with_reducible refine gate_callee (f := 31) rfl ?_); refine goesL_ (some 16) rfl rfl Tryd.func31 (by kernel_rfl) rfl #[.int .i64 ((rd_T46 l0 x9_1).f0), .int .i64 0, .int .i64 9] rfl (by (try simp only [List.map_toArray, List.map_cons, List.map_nil]); first | done | rfl | (simp only [List.length_drop, List.length_take]; rfl)) ?_; (with_reducible refine (spec_l1In.calls ((rd_T46 l0 x9_1).f0) 0 9 true _ A8.out).mono ?_); rintro e w' ⟨rfl, ⟨nd, rfl⟩⟩; refine ⟨_, rfl, ?_⟩) | (go_at_call 32; (with_reducible refine (spec_l1Key.calls k1 ((rd_T46 l0 x9_1).f2) true _ A10.out).mono ?_); rintro e w' ⟨rfl, ⟨nd, rfl⟩⟩) | (go_at_call 33; (with_reducible refine (spec_l1Value.calls k1 ((rd_T46 l0 x9_1).f3) true _ A12.out).mono ?_); rintro e w' ⟨rfl, ⟨nd, rfl⟩⟩))
                      go_meet
                      case rel => exact ⟨_, (true), (by first | rfl | (simp; done) | (simp [*]; done)), H', ⟨by have := HK1.out; first | omega | exact Nat.le_refl _⟩, ⟨by (with_reducible repeat (first | refine blk_drewN ?_ _ | refine blk_drew ?_ | refine blk_alloc ?_ _)); refine blk_put (cs := #[.int .i64 ((rd_T46 l0 x9_1).f0), .bool ((rd_T46 l0 x9_1).f1), .string ((rd_T46 l0 x9_1).f2), .string ((rd_T46 l0 x9_1).f3), .int .i64 ((rd_T46 l0 x9_1).f4), .int .i64 0]) ?_ 5 _ rfl; (with_reducible repeat (first | refine blk_drewN ?_ _ | refine blk_drew ?_ | refine blk_alloc ?_ _)); refine blk_put (cs := #[.int .i64 ((rd_T46 l0 x9_1).f0), .bool ((rd_T46 l0 x9_1).f1), .string ((rd_T46 l0 x9_1).f2), .string ((rd_T46 l0 x9_1).f3), .int .i64 0, .int .i64 0]) ?_ 4 _ rfl; (with_reducible repeat (first | refine blk_drewN ?_ _ | refine blk_drew ?_ | refine blk_alloc ?_ _)); refine blk_put (cs := #[.int .i64 ((rd_T46 l0 x9_1).f0), .bool ((rd_T46 l0 x9_1).f1), .string ((rd_T46 l0 x9_1).f2), .string (⟨#[]⟩ : ByteArray), .int .i64 0, .int .i64 0]) ?_ 3 _ rfl; (with_reducible repeat (first | refine blk_drewN ?_ _ | refine blk_drew ?_ | refine blk_alloc ?_ _)); refine blk_put (cs := #[.int .i64 ((rd_T46 l0 x9_1).f0), .bool ((rd_T46 l0 x9_1).f1), .string (⟨#[]⟩ : ByteArray), .string (⟨#[]⟩ : ByteArray), .int .i64 0, .int .i64 0]) ?_ 2 _ rfl; (with_reducible repeat (first | refine blk_drewN ?_ _ | refine blk_drew ?_ | refine blk_alloc ?_ _)); refine blk_put (cs := #[.int .i64 ((rd_T46 l0 x9_1).f0), .bool false, .string (⟨#[]⟩ : ByteArray), .string (⟨#[]⟩ : ByteArray), .int .i64 0, .int .i64 0]) ?_ 1 _ rfl; (with_reducible repeat (first | refine blk_drewN ?_ _ | refine blk_drew ?_ | refine blk_alloc ?_ _)); refine blk_put (cs := #[.int .i64 0, .bool false, .string (⟨#[]⟩ : ByteArray), .string (⟨#[]⟩ : ByteArray), .int .i64 0, .int .i64 0]) ?_ 0 _ rfl; (with_reducible repeat (first | refine blk_drewN ?_ _ | refine blk_drew ?_ | refine blk_alloc ?_ _)); exact BK108.out⟩, ⟨by repeat (first | (with_reducible first | exact HB.out | apply below_alloc | apply pw_below_drewN | apply below_drew1 | refine below_set ?_ GE108.out) | exact HB.out)⟩⟩
                    · rw [if_neg c14] at H
                      have c14b0 : decide (((rd_T46 l0 x9_1).f4) < 0) = false := decide_eq_false c14
                      clear c14
                      (first | rw [c14b0] | (simp only [i64_w, i32_w]; rw [c14b0]) | skip)
                      by_cases c16 : ((rd_T46 l0 x9_1).f5) ≤ ((rd_T46 l0 x9_1).f4)
                      · rw [if_pos c16] at H
                        have c16b0 : decide (((rd_T46 l0 x9_1).f5) ≤ ((rd_T46 l0 x9_1).f4)) = true := decide_eq_true c16
                        clear c16
                        have H' := Aside0.mk H
                        clear H
                        have hcz17_0 : w6.cell? ⟨gb108, 0, none⟩ = some (.int .i64 0) := (blk_cell BK108.out 0).trans rfl
                        have hcz17_1 : w6.cell? ⟨gb108, 1, none⟩ = some (.bool false) := (blk_cell BK108.out 1).trans rfl
                        have hcz17_2 : w6.cell? ⟨gb108, 2, none⟩ = some (.string (⟨#[]⟩ : ByteArray)) := (blk_cell BK108.out 2).trans rfl
                        have hcz17_3 : w6.cell? ⟨gb108, 3, none⟩ = some (.string (⟨#[]⟩ : ByteArray)) := (blk_cell BK108.out 3).trans rfl
                        have hcz17_4 : w6.cell? ⟨gb108, 4, none⟩ = some (.int .i64 0) := (blk_cell BK108.out 4).trans rfl
                        have hcz17_5 : w6.cell? ⟨gb108, 5, none⟩ = some (.int .i64 0) := (blk_cell BK108.out 5).trans rfl
                        have hfz17_0 := blk_frozen BK108.out 0
                        have hfz17_1 := blk_frozen BK108.out 1
                        have hfz17_2 := blk_frozen BK108.out 2
                        have hfz17_3 := blk_frozen BK108.out 3
                        have hfz17_4 := blk_frozen BK108.out 4
                        have hfz17_5 := blk_frozen BK108.out 5
                        go_wp2_with (first | ((with_reducible refine gate_callee (f := 31) rfl ?_); refine goesL_ (some 16) rfl rfl Tryd.func31 (by kernel_rfl) rfl #[.int .i64 ((rd_T46 l0 x9_1).f0), .int .i64 0, .int .i64 9] rfl (by (try simp only [List.map_toArray, List.map_cons, List.map_nil]); first | done | rfl | (simp only [List.length_drop, List.length_take]; rfl)) ?_; (with_reducible refine (spec_l1In.calls ((rd_T46 l0 x9_1).f0) 0 9 true _ A8.out).mono ?_); rintro e w' ⟨rfl, ⟨nd, rfl⟩⟩; refine ⟨_, rfl, ?_⟩) | (go_at_call 32; (with_reducible refine (spec_l1Key.calls k1 ((rd_T46 l0 x9_1).f2) true _ A10.out).mono ?_); rintro e w' ⟨rfl, ⟨nd, rfl⟩⟩) | (go_at_call 33; (with_reducible refine (spec_l1Value.calls k1 ((rd_T46 l0 x9_1).f3) true _ A12.out).mono ?_); rintro e w' ⟨rfl, ⟨nd, rfl⟩⟩))
                        go_meet
                        case rel => exact ⟨_, (true), (by first | rfl | (simp; done) | (simp [*]; done)), H', ⟨by have := HK1.out; first | omega | exact Nat.le_refl _⟩, ⟨by (with_reducible repeat (first | refine blk_drewN ?_ _ | refine blk_drew ?_ | refine blk_alloc ?_ _)); refine blk_put (cs := #[.int .i64 ((rd_T46 l0 x9_1).f0), .bool ((rd_T46 l0 x9_1).f1), .string ((rd_T46 l0 x9_1).f2), .string ((rd_T46 l0 x9_1).f3), .int .i64 ((rd_T46 l0 x9_1).f4), .int .i64 0]) ?_ 5 _ rfl; (with_reducible repeat (first | refine blk_drewN ?_ _ | refine blk_drew ?_ | refine blk_alloc ?_ _)); refine blk_put (cs := #[.int .i64 ((rd_T46 l0 x9_1).f0), .bool ((rd_T46 l0 x9_1).f1), .string ((rd_T46 l0 x9_1).f2), .string ((rd_T46 l0 x9_1).f3), .int .i64 0, .int .i64 0]) ?_ 4 _ rfl; (with_reducible repeat (first | refine blk_drewN ?_ _ | refine blk_drew ?_ | refine blk_alloc ?_ _)); refine blk_put (cs := #[.int .i64 ((rd_T46 l0 x9_1).f0), .bool ((rd_T46 l0 x9_1).f1), .string ((rd_T46 l0 x9_1).f2), .string (⟨#[]⟩ : ByteArray), .int .i64 0, .int .i64 0]) ?_ 3 _ rfl; (with_reducible repeat (first | refine blk_drewN ?_ _ | refine blk_drew ?_ | refine blk_alloc ?_ _)); refine blk_put (cs := #[.int .i64 ((rd_T46 l0 x9_1).f0), .bool ((rd_T46 l0 x9_1).f1), .string (⟨#[]⟩ : ByteArray), .string (⟨#[]⟩ : ByteArray), .int .i64 0, .int .i64 0]) ?_ 2 _ rfl; (with_reducible repeat (first | refine blk_drewN ?_ _ | refine blk_drew ?_ | refine blk_alloc ?_ _)); refine blk_put (cs := #[.int .i64 ((rd_T46 l0 x9_1).f0), .bool false, .string (⟨#[]⟩ : ByteArray), .string (⟨#[]⟩ : ByteArray), .int .i64 0, .int .i64 0]) ?_ 1 _ rfl; (with_reducible repeat (first | refine blk_drewN ?_ _ | refine blk_drew ?_ | refine blk_alloc ?_ _)); refine blk_put (cs := #[.int .i64 0, .bool false, .string (⟨#[]⟩ : ByteArray), .string (⟨#[]⟩ : ByteArray), .int .i64 0, .int .i64 0]) ?_ 0 _ rfl; (with_reducible repeat (first | refine blk_drewN ?_ _ | refine blk_drew ?_ | refine blk_alloc ?_ _)); exact BK108.out⟩, ⟨by repeat (first | (with_reducible first | exact HB.out | apply below_alloc | apply pw_below_drewN | apply below_drew1 | refine below_set ?_ GE108.out) | exact HB.out)⟩⟩
                      · rw [if_neg c16] at H
                        have c16b0 : decide (((rd_T46 l0 x9_1).f5) ≤ ((rd_T46 l0 x9_1).f4)) = false := decide_eq_false c16
                        clear c16
                        have H' := Aside0.mk H
                        clear H
                        have hcz18_0 : w6.cell? ⟨gb108, 0, none⟩ = some (.int .i64 0) := (blk_cell BK108.out 0).trans rfl
                        have hcz18_1 : w6.cell? ⟨gb108, 1, none⟩ = some (.bool false) := (blk_cell BK108.out 1).trans rfl
                        have hcz18_2 : w6.cell? ⟨gb108, 2, none⟩ = some (.string (⟨#[]⟩ : ByteArray)) := (blk_cell BK108.out 2).trans rfl
                        have hcz18_3 : w6.cell? ⟨gb108, 3, none⟩ = some (.string (⟨#[]⟩ : ByteArray)) := (blk_cell BK108.out 3).trans rfl
                        have hcz18_4 : w6.cell? ⟨gb108, 4, none⟩ = some (.int .i64 0) := (blk_cell BK108.out 4).trans rfl
                        have hcz18_5 : w6.cell? ⟨gb108, 5, none⟩ = some (.int .i64 0) := (blk_cell BK108.out 5).trans rfl
                        have hfz18_0 := blk_frozen BK108.out 0
                        have hfz18_1 := blk_frozen BK108.out 1
                        have hfz18_2 := blk_frozen BK108.out 2
                        have hfz18_3 := blk_frozen BK108.out 3
                        have hfz18_4 := blk_frozen BK108.out 4
                        have hfz18_5 := blk_frozen BK108.out 5
                        go_wp2_with (first | ((with_reducible refine gate_callee (f := 31) rfl ?_); refine goesL_ (some 16) rfl rfl Tryd.func31 (by kernel_rfl) rfl #[.int .i64 ((rd_T46 l0 x9_1).f0), .int .i64 0, .int .i64 9] rfl (by (try simp only [List.map_toArray, List.map_cons, List.map_nil]); first | done | rfl | (simp only [List.length_drop, List.length_take]; rfl)) ?_; (with_reducible refine (spec_l1In.calls ((rd_T46 l0 x9_1).f0) 0 9 true _ A8.out).mono ?_); rintro e w' ⟨rfl, ⟨nd, rfl⟩⟩; refine ⟨_, rfl, ?_⟩) | (go_at_call 32; (with_reducible refine (spec_l1Key.calls k1 ((rd_T46 l0 x9_1).f2) true _ A10.out).mono ?_); rintro e w' ⟨rfl, ⟨nd, rfl⟩⟩) | (go_at_call 33; (with_reducible refine (spec_l1Value.calls k1 ((rd_T46 l0 x9_1).f3) true _ A12.out).mono ?_); rintro e w' ⟨rfl, ⟨nd, rfl⟩⟩))
                        go_meet
                        case rel => exact ⟨_, (decide (((rd_T46 l0 x9_1).f5) ≥ 1000000)), (by first | rfl | (simp; done) | (simp [*]; done)), H', ⟨by have := HK1.out; first | omega | exact Nat.le_refl _⟩, ⟨by (with_reducible repeat (first | refine blk_drewN ?_ _ | refine blk_drew ?_ | refine blk_alloc ?_ _)); refine blk_put (cs := #[.int .i64 ((rd_T46 l0 x9_1).f0), .bool ((rd_T46 l0 x9_1).f1), .string ((rd_T46 l0 x9_1).f2), .string ((rd_T46 l0 x9_1).f3), .int .i64 ((rd_T46 l0 x9_1).f4), .int .i64 0]) ?_ 5 _ rfl; (with_reducible repeat (first | refine blk_drewN ?_ _ | refine blk_drew ?_ | refine blk_alloc ?_ _)); refine blk_put (cs := #[.int .i64 ((rd_T46 l0 x9_1).f0), .bool ((rd_T46 l0 x9_1).f1), .string ((rd_T46 l0 x9_1).f2), .string ((rd_T46 l0 x9_1).f3), .int .i64 0, .int .i64 0]) ?_ 4 _ rfl; (with_reducible repeat (first | refine blk_drewN ?_ _ | refine blk_drew ?_ | refine blk_alloc ?_ _)); refine blk_put (cs := #[.int .i64 ((rd_T46 l0 x9_1).f0), .bool ((rd_T46 l0 x9_1).f1), .string ((rd_T46 l0 x9_1).f2), .string (⟨#[]⟩ : ByteArray), .int .i64 0, .int .i64 0]) ?_ 3 _ rfl; (with_reducible repeat (first | refine blk_drewN ?_ _ | refine blk_drew ?_ | refine blk_alloc ?_ _)); refine blk_put (cs := #[.int .i64 ((rd_T46 l0 x9_1).f0), .bool ((rd_T46 l0 x9_1).f1), .string (⟨#[]⟩ : ByteArray), .string (⟨#[]⟩ : ByteArray), .int .i64 0, .int .i64 0]) ?_ 2 _ rfl; (with_reducible repeat (first | refine blk_drewN ?_ _ | refine blk_drew ?_ | refine blk_alloc ?_ _)); refine blk_put (cs := #[.int .i64 ((rd_T46 l0 x9_1).f0), .bool false, .string (⟨#[]⟩ : ByteArray), .string (⟨#[]⟩ : ByteArray), .int .i64 0, .int .i64 0]) ?_ 1 _ rfl; (with_reducible repeat (first | refine blk_drewN ?_ _ | refine blk_drew ?_ | refine blk_alloc ?_ _)); refine blk_put (cs := #[.int .i64 0, .bool false, .string (⟨#[]⟩ : ByteArray), .string (⟨#[]⟩ : ByteArray), .int .i64 0, .int .i64 0]) ?_ 0 _ rfl; (with_reducible repeat (first | refine blk_drewN ?_ _ | refine blk_drew ?_ | refine blk_alloc ?_ _)); exact BK108.out⟩, ⟨by repeat (first | (with_reducible first | exact HB.out | apply below_alloc | apply pw_below_drewN | apply below_drew1 | refine below_set ?_ GE108.out) | exact HB.out)⟩⟩
                  · replace c13 := Bool.eq_false_iff.mpr c13
                    subst c13
                    have H1 : (spec_GoodCalls.j1 k1 l0 x9_1 l0 (l0.length : Int) x9_1 true ((rd_T46 l0 x9_1).f0) ((rd_T46 l0 x9_1).f1) ((rd_T46 l0 x9_1).f2) ((rd_T46 l0 x9_1).f3) ((rd_T46 l0 x9_1).f4) ((rd_T46 l0 x9_1).f5)) = some r := by rw [if_neg (show ¬ (false = true) by decide)] at H; exact H
                    clear H
                    have H := H1
                    clear H1
                    have H' := Aside0.mk H
                    clear H
                    have hcz19_0 : w6.cell? ⟨gb108, 0, none⟩ = some (.int .i64 0) := (blk_cell BK108.out 0).trans rfl
                    have hcz19_1 : w6.cell? ⟨gb108, 1, none⟩ = some (.bool false) := (blk_cell BK108.out 1).trans rfl
                    have hcz19_2 : w6.cell? ⟨gb108, 2, none⟩ = some (.string (⟨#[]⟩ : ByteArray)) := (blk_cell BK108.out 2).trans rfl
                    have hcz19_3 : w6.cell? ⟨gb108, 3, none⟩ = some (.string (⟨#[]⟩ : ByteArray)) := (blk_cell BK108.out 3).trans rfl
                    have hcz19_4 : w6.cell? ⟨gb108, 4, none⟩ = some (.int .i64 0) := (blk_cell BK108.out 4).trans rfl
                    have hcz19_5 : w6.cell? ⟨gb108, 5, none⟩ = some (.int .i64 0) := (blk_cell BK108.out 5).trans rfl
                    have hfz19_0 := blk_frozen BK108.out 0
                    have hfz19_1 := blk_frozen BK108.out 1
                    have hfz19_2 := blk_frozen BK108.out 2
                    have hfz19_3 := blk_frozen BK108.out 3
                    have hfz19_4 := blk_frozen BK108.out 4
                    have hfz19_5 := blk_frozen BK108.out 5
                    go_wp2_with (first | ((with_reducible refine gate_callee (f := 31) rfl ?_); refine goesL_ (some 16) rfl rfl Tryd.func31 (by kernel_rfl) rfl #[.int .i64 ((rd_T46 l0 x9_1).f0), .int .i64 0, .int .i64 9] rfl (by (try simp only [List.map_toArray, List.map_cons, List.map_nil]); first | done | rfl | (simp only [List.length_drop, List.length_take]; rfl)) ?_; (with_reducible refine (spec_l1In.calls ((rd_T46 l0 x9_1).f0) 0 9 true _ A8.out).mono ?_); rintro e w' ⟨rfl, ⟨nd, rfl⟩⟩; refine ⟨_, rfl, ?_⟩) | (go_at_call 32; (with_reducible refine (spec_l1Key.calls k1 ((rd_T46 l0 x9_1).f2) true _ A10.out).mono ?_); rintro e w' ⟨rfl, ⟨nd, rfl⟩⟩) | (go_at_call 33; (with_reducible refine (spec_l1Value.calls k1 ((rd_T46 l0 x9_1).f3) false _ A12.out).mono ?_); rintro e w' ⟨rfl, ⟨nd, rfl⟩⟩))
                    go_meet
                    case rel => exact ⟨_, (true), (by first | rfl | (simp; done) | (simp [*]; done)), H', ⟨by have := HK1.out; first | omega | exact Nat.le_refl _⟩, ⟨by (with_reducible repeat (first | refine blk_drewN ?_ _ | refine blk_drew ?_ | refine blk_alloc ?_ _)); refine blk_put (cs := #[.int .i64 ((rd_T46 l0 x9_1).f0), .bool ((rd_T46 l0 x9_1).f1), .string ((rd_T46 l0 x9_1).f2), .string ((rd_T46 l0 x9_1).f3), .int .i64 ((rd_T46 l0 x9_1).f4), .int .i64 0]) ?_ 5 _ rfl; (with_reducible repeat (first | refine blk_drewN ?_ _ | refine blk_drew ?_ | refine blk_alloc ?_ _)); refine blk_put (cs := #[.int .i64 ((rd_T46 l0 x9_1).f0), .bool ((rd_T46 l0 x9_1).f1), .string ((rd_T46 l0 x9_1).f2), .string ((rd_T46 l0 x9_1).f3), .int .i64 0, .int .i64 0]) ?_ 4 _ rfl; (with_reducible repeat (first | refine blk_drewN ?_ _ | refine blk_drew ?_ | refine blk_alloc ?_ _)); refine blk_put (cs := #[.int .i64 ((rd_T46 l0 x9_1).f0), .bool ((rd_T46 l0 x9_1).f1), .string ((rd_T46 l0 x9_1).f2), .string (⟨#[]⟩ : ByteArray), .int .i64 0, .int .i64 0]) ?_ 3 _ rfl; (with_reducible repeat (first | refine blk_drewN ?_ _ | refine blk_drew ?_ | refine blk_alloc ?_ _)); refine blk_put (cs := #[.int .i64 ((rd_T46 l0 x9_1).f0), .bool ((rd_T46 l0 x9_1).f1), .string (⟨#[]⟩ : ByteArray), .string (⟨#[]⟩ : ByteArray), .int .i64 0, .int .i64 0]) ?_ 2 _ rfl; (with_reducible repeat (first | refine blk_drewN ?_ _ | refine blk_drew ?_ | refine blk_alloc ?_ _)); refine blk_put (cs := #[.int .i64 ((rd_T46 l0 x9_1).f0), .bool false, .string (⟨#[]⟩ : ByteArray), .string (⟨#[]⟩ : ByteArray), .int .i64 0, .int .i64 0]) ?_ 1 _ rfl; (with_reducible repeat (first | refine blk_drewN ?_ _ | refine blk_drew ?_ | refine blk_alloc ?_ _)); refine blk_put (cs := #[.int .i64 0, .bool false, .string (⟨#[]⟩ : ByteArray), .string (⟨#[]⟩ : ByteArray), .int .i64 0, .int .i64 0]) ?_ 0 _ rfl; (with_reducible repeat (first | refine blk_drewN ?_ _ | refine blk_drew ?_ | refine blk_alloc ?_ _)); exact BK108.out⟩, ⟨by repeat (first | (with_reducible first | exact HB.out | apply below_alloc | apply pw_below_drewN | apply below_drew1 | refine below_set ?_ GE108.out) | exact HB.out)⟩⟩
                · replace c11 := Bool.eq_false_iff.mpr c11
                  subst c11
                  have H1 : (spec_GoodCalls.j1 k1 l0 x9_1 l0 (l0.length : Int) x9_1 true ((rd_T46 l0 x9_1).f0) ((rd_T46 l0 x9_1).f1) ((rd_T46 l0 x9_1).f2) ((rd_T46 l0 x9_1).f3) ((rd_T46 l0 x9_1).f4) ((rd_T46 l0 x9_1).f5)) = some r := by rw [if_neg (show ¬ (false = true) by decide)] at H; exact H
                  clear H
                  have H := H1
                  clear H1
                  have H' := Aside0.mk H
                  clear H
                  have hcz20_0 : w6.cell? ⟨gb108, 0, none⟩ = some (.int .i64 0) := (blk_cell BK108.out 0).trans rfl
                  have hcz20_1 : w6.cell? ⟨gb108, 1, none⟩ = some (.bool false) := (blk_cell BK108.out 1).trans rfl
                  have hcz20_2 : w6.cell? ⟨gb108, 2, none⟩ = some (.string (⟨#[]⟩ : ByteArray)) := (blk_cell BK108.out 2).trans rfl
                  have hcz20_3 : w6.cell? ⟨gb108, 3, none⟩ = some (.string (⟨#[]⟩ : ByteArray)) := (blk_cell BK108.out 3).trans rfl
                  have hcz20_4 : w6.cell? ⟨gb108, 4, none⟩ = some (.int .i64 0) := (blk_cell BK108.out 4).trans rfl
                  have hcz20_5 : w6.cell? ⟨gb108, 5, none⟩ = some (.int .i64 0) := (blk_cell BK108.out 5).trans rfl
                  have hfz20_0 := blk_frozen BK108.out 0
                  have hfz20_1 := blk_frozen BK108.out 1
                  have hfz20_2 := blk_frozen BK108.out 2
                  have hfz20_3 := blk_frozen BK108.out 3
                  have hfz20_4 := blk_frozen BK108.out 4
                  have hfz20_5 := blk_frozen BK108.out 5
                  go_wp2_with (first | ((with_reducible refine gate_callee (f := 31) rfl ?_); refine goesL_ (some 16) rfl rfl Tryd.func31 (by kernel_rfl) rfl #[.int .i64 ((rd_T46 l0 x9_1).f0), .int .i64 0, .int .i64 9] rfl (by (try simp only [List.map_toArray, List.map_cons, List.map_nil]); first | done | rfl | (simp only [List.length_drop, List.length_take]; rfl)) ?_; (with_reducible refine (spec_l1In.calls ((rd_T46 l0 x9_1).f0) 0 9 true _ A8.out).mono ?_); rintro e w' ⟨rfl, ⟨nd, rfl⟩⟩; refine ⟨_, rfl, ?_⟩) | (go_at_call 32; (with_reducible refine (spec_l1Key.calls k1 ((rd_T46 l0 x9_1).f2) false _ A10.out).mono ?_); rintro e w' ⟨rfl, ⟨nd, rfl⟩⟩))
                  go_meet
                  case rel => exact ⟨_, (true), (by first | rfl | (simp; done) | (simp [*]; done)), H', ⟨by have := HK1.out; first | omega | exact Nat.le_refl _⟩, ⟨by (with_reducible repeat (first | refine blk_drewN ?_ _ | refine blk_drew ?_ | refine blk_alloc ?_ _)); refine blk_put (cs := #[.int .i64 ((rd_T46 l0 x9_1).f0), .bool ((rd_T46 l0 x9_1).f1), .string ((rd_T46 l0 x9_1).f2), .string ((rd_T46 l0 x9_1).f3), .int .i64 ((rd_T46 l0 x9_1).f4), .int .i64 0]) ?_ 5 _ rfl; (with_reducible repeat (first | refine blk_drewN ?_ _ | refine blk_drew ?_ | refine blk_alloc ?_ _)); refine blk_put (cs := #[.int .i64 ((rd_T46 l0 x9_1).f0), .bool ((rd_T46 l0 x9_1).f1), .string ((rd_T46 l0 x9_1).f2), .string ((rd_T46 l0 x9_1).f3), .int .i64 0, .int .i64 0]) ?_ 4 _ rfl; (with_reducible repeat (first | refine blk_drewN ?_ _ | refine blk_drew ?_ | refine blk_alloc ?_ _)); refine blk_put (cs := #[.int .i64 ((rd_T46 l0 x9_1).f0), .bool ((rd_T46 l0 x9_1).f1), .string ((rd_T46 l0 x9_1).f2), .string (⟨#[]⟩ : ByteArray), .int .i64 0, .int .i64 0]) ?_ 3 _ rfl; (with_reducible repeat (first | refine blk_drewN ?_ _ | refine blk_drew ?_ | refine blk_alloc ?_ _)); refine blk_put (cs := #[.int .i64 ((rd_T46 l0 x9_1).f0), .bool ((rd_T46 l0 x9_1).f1), .string (⟨#[]⟩ : ByteArray), .string (⟨#[]⟩ : ByteArray), .int .i64 0, .int .i64 0]) ?_ 2 _ rfl; (with_reducible repeat (first | refine blk_drewN ?_ _ | refine blk_drew ?_ | refine blk_alloc ?_ _)); refine blk_put (cs := #[.int .i64 ((rd_T46 l0 x9_1).f0), .bool false, .string (⟨#[]⟩ : ByteArray), .string (⟨#[]⟩ : ByteArray), .int .i64 0, .int .i64 0]) ?_ 1 _ rfl; (with_reducible repeat (first | refine blk_drewN ?_ _ | refine blk_drew ?_ | refine blk_alloc ?_ _)); refine blk_put (cs := #[.int .i64 0, .bool false, .string (⟨#[]⟩ : ByteArray), .string (⟨#[]⟩ : ByteArray), .int .i64 0, .int .i64 0]) ?_ 0 _ rfl; (with_reducible repeat (first | refine blk_drewN ?_ _ | refine blk_drew ?_ | refine blk_alloc ?_ _)); exact BK108.out⟩, ⟨by repeat (first | (with_reducible first | exact HB.out | apply below_alloc | apply pw_below_drewN | apply below_drew1 | refine below_set ?_ GE108.out) | exact HB.out)⟩⟩
              · replace c9 := Bool.eq_false_iff.mpr c9
                subst c9
                have H1 : (spec_GoodCalls.j1 k1 l0 x9_1 l0 (l0.length : Int) x9_1 true ((rd_T46 l0 x9_1).f0) ((rd_T46 l0 x9_1).f1) ((rd_T46 l0 x9_1).f2) ((rd_T46 l0 x9_1).f3) ((rd_T46 l0 x9_1).f4) ((rd_T46 l0 x9_1).f5)) = some r := by rw [if_neg (show ¬ (false = true) by decide)] at H; exact H
                clear H
                have H := H1
                clear H1
                have H' := Aside0.mk H
                clear H
                have hcz21_0 : w6.cell? ⟨gb108, 0, none⟩ = some (.int .i64 0) := (blk_cell BK108.out 0).trans rfl
                have hcz21_1 : w6.cell? ⟨gb108, 1, none⟩ = some (.bool false) := (blk_cell BK108.out 1).trans rfl
                have hcz21_2 : w6.cell? ⟨gb108, 2, none⟩ = some (.string (⟨#[]⟩ : ByteArray)) := (blk_cell BK108.out 2).trans rfl
                have hcz21_3 : w6.cell? ⟨gb108, 3, none⟩ = some (.string (⟨#[]⟩ : ByteArray)) := (blk_cell BK108.out 3).trans rfl
                have hcz21_4 : w6.cell? ⟨gb108, 4, none⟩ = some (.int .i64 0) := (blk_cell BK108.out 4).trans rfl
                have hcz21_5 : w6.cell? ⟨gb108, 5, none⟩ = some (.int .i64 0) := (blk_cell BK108.out 5).trans rfl
                have hfz21_0 := blk_frozen BK108.out 0
                have hfz21_1 := blk_frozen BK108.out 1
                have hfz21_2 := blk_frozen BK108.out 2
                have hfz21_3 := blk_frozen BK108.out 3
                have hfz21_4 := blk_frozen BK108.out 4
                have hfz21_5 := blk_frozen BK108.out 5
                go_wp2_with (first | ((with_reducible refine gate_callee (f := 31) rfl ?_); refine goesL_ (some 16) rfl rfl Tryd.func31 (by kernel_rfl) rfl #[.int .i64 ((rd_T46 l0 x9_1).f0), .int .i64 0, .int .i64 9] rfl (by (try simp only [List.map_toArray, List.map_cons, List.map_nil]); first | done | rfl | (simp only [List.length_drop, List.length_take]; rfl)) ?_; (with_reducible refine (spec_l1In.calls ((rd_T46 l0 x9_1).f0) 0 9 false _ A8.out).mono ?_); rintro e w' ⟨rfl, ⟨nd, rfl⟩⟩; refine ⟨_, rfl, ?_⟩))
                go_meet
                case rel => exact ⟨_, (true), (by first | rfl | (simp; done) | (simp [*]; done)), H', ⟨by have := HK1.out; first | omega | exact Nat.le_refl _⟩, ⟨by (with_reducible repeat (first | refine blk_drewN ?_ _ | refine blk_drew ?_ | refine blk_alloc ?_ _)); refine blk_put (cs := #[.int .i64 ((rd_T46 l0 x9_1).f0), .bool ((rd_T46 l0 x9_1).f1), .string ((rd_T46 l0 x9_1).f2), .string ((rd_T46 l0 x9_1).f3), .int .i64 ((rd_T46 l0 x9_1).f4), .int .i64 0]) ?_ 5 _ rfl; (with_reducible repeat (first | refine blk_drewN ?_ _ | refine blk_drew ?_ | refine blk_alloc ?_ _)); refine blk_put (cs := #[.int .i64 ((rd_T46 l0 x9_1).f0), .bool ((rd_T46 l0 x9_1).f1), .string ((rd_T46 l0 x9_1).f2), .string ((rd_T46 l0 x9_1).f3), .int .i64 0, .int .i64 0]) ?_ 4 _ rfl; (with_reducible repeat (first | refine blk_drewN ?_ _ | refine blk_drew ?_ | refine blk_alloc ?_ _)); refine blk_put (cs := #[.int .i64 ((rd_T46 l0 x9_1).f0), .bool ((rd_T46 l0 x9_1).f1), .string ((rd_T46 l0 x9_1).f2), .string (⟨#[]⟩ : ByteArray), .int .i64 0, .int .i64 0]) ?_ 3 _ rfl; (with_reducible repeat (first | refine blk_drewN ?_ _ | refine blk_drew ?_ | refine blk_alloc ?_ _)); refine blk_put (cs := #[.int .i64 ((rd_T46 l0 x9_1).f0), .bool ((rd_T46 l0 x9_1).f1), .string (⟨#[]⟩ : ByteArray), .string (⟨#[]⟩ : ByteArray), .int .i64 0, .int .i64 0]) ?_ 2 _ rfl; (with_reducible repeat (first | refine blk_drewN ?_ _ | refine blk_drew ?_ | refine blk_alloc ?_ _)); refine blk_put (cs := #[.int .i64 ((rd_T46 l0 x9_1).f0), .bool false, .string (⟨#[]⟩ : ByteArray), .string (⟨#[]⟩ : ByteArray), .int .i64 0, .int .i64 0]) ?_ 1 _ rfl; (with_reducible repeat (first | refine blk_drewN ?_ _ | refine blk_drew ?_ | refine blk_alloc ?_ _)); refine blk_put (cs := #[.int .i64 0, .bool false, .string (⟨#[]⟩ : ByteArray), .string (⟨#[]⟩ : ByteArray), .int .i64 0, .int .i64 0]) ?_ 0 _ rfl; (with_reducible repeat (first | refine blk_drewN ?_ _ | refine blk_drew ?_ | refine blk_alloc ?_ _)); exact BK108.out⟩, ⟨by repeat (first | (with_reducible first | exact HB.out | apply below_alloc | apply pw_below_drewN | apply below_drew1 | refine below_set ?_ GE108.out) | exact HB.out)⟩⟩
            case rest =>
              clear HC5
              try clear c1
              try clear p1
              try clear q1
              try clear hx1
              try clear c2
              try clear c2b0
              try clear p2
              try clear c3
              try clear c3b0
              try clear c4
              try clear c4b0
              try clear c9
              try clear c10
              try clear p10
              try clear q10
              try clear hx10
              try clear c11
              try clear c13
              try clear c14
              try clear c14b0
              try clear c16
              try clear c16b0
              try clear hcz15_0
              try clear hcz15_1
              try clear hcz15_2
              try clear hcz15_3
              try clear hcz15_4
              try clear hcz15_5
              try clear hcz17_0
              try clear hcz17_1
              try clear hcz17_2
              try clear hcz17_3
              try clear hcz17_4
              try clear hcz17_5
              try clear hcz18_0
              try clear hcz18_1
              try clear hcz18_2
              try clear hcz18_3
              try clear hcz18_4
              try clear hcz18_5
              try clear hcz19_0
              try clear hcz19_1
              try clear hcz19_2
              try clear hcz19_3
              try clear hcz19_4
              try clear hcz19_5
              try clear hcz20_0
              try clear hcz20_1
              try clear hcz20_2
              try clear hcz20_3
              try clear hcz20_4
              try clear hcz20_5
              try clear hcz21_0
              try clear hcz21_1
              try clear hcz21_2
              try clear hcz21_3
              try clear hcz21_4
              try clear hcz21_5
              try clear hcz7_0
              try clear hcz7_1
              try clear hcz7_2
              try clear hcz7_3
              try clear hcz7_4
              try clear hcz7_5
              try clear hfz15_0
              try clear hfz15_1
              try clear hfz15_2
              try clear hfz15_3
              try clear hfz15_4
              try clear hfz15_5
              try clear hfz17_0
              try clear hfz17_1
              try clear hfz17_2
              try clear hfz17_3
              try clear hfz17_4
              try clear hfz17_5
              try clear hfz18_0
              try clear hfz18_1
              try clear hfz18_2
              try clear hfz18_3
              try clear hfz18_4
              try clear hfz18_5
              try clear hfz19_0
              try clear hfz19_1
              try clear hfz19_2
              try clear hfz19_3
              try clear hfz19_4
              try clear hfz19_5
              try clear hfz20_0
              try clear hfz20_1
              try clear hfz20_2
              try clear hfz20_3
              try clear hfz20_4
              try clear hfz20_5
              try clear hfz21_0
              try clear hfz21_1
              try clear hfz21_2
              try clear hfz21_3
              try clear hfz21_4
              try clear hfz21_5
              try clear hfz7_0
              try clear hfz7_1
              try clear hfz7_2
              try clear hfz7_3
              try clear hfz7_4
              try clear hfz7_5
              try clear hx107_0
              try clear hx107_1
              try clear hx107_2
              try clear hx107_3
              try clear hx107_4
              try clear hx107_5
              try clear p107
              try clear q107
              obtain ⟨kq, x46_4, rfl, HA, HJ4, BK108, HB⟩ := hcut
              cases kq with
              | zero => exact absurd HA.out (by simp [spec_GoodCalls.j1])
              | succ kj4 =>
                have H := HA.out
                clear HA
                simp only [spec_GoodCalls.j1] at H
                by_cases c22 : x46_4 = true
                · subst c22
                  have H1 : (some false) = some r := by rw [if_pos rfl] at H; exact H
                  clear H
                  have H := H1
                  clear H1
                  obtain rfl := Option.some.inj H
                  go_wp2
                  go_ret
                  exact ⟨by first | rfl | (simp [errW_none, errW_some] <;> rfl) | (simp [*, errW_none, errW_some] <;> rfl), by repeat (first | (with_reducible first | exact HB.out | apply below_alloc | apply pw_below_drewN | apply below_drew1 | refine below_set ?_ GE108.out) | exact HB.out)⟩
                · replace c22 := Bool.eq_false_iff.mpr c22
                  subst c22
                  have H1 : (if 0 ≤ x9_1 then (if x9_1 ≤ (l0.length : Int) then ((some (l0.take (x9_1 : Int).toNat : List (S46))).bind fun y112 => (spec_GoodCalls.l1 kj4 l0 l0 (l0.length : Int) x9_1 y112 (y112.length : Int) 0 ((rd_T46 l0 x9_1).f0) ((rd_T46 l0 x9_1).f1) ((rd_T46 l0 x9_1).f2) ((rd_T46 l0 x9_1).f3) ((rd_T46 l0 x9_1).f4) ((rd_T46 l0 x9_1).f5))) else (none)) else (none)) = some r := by rw [if_neg (show ¬ (false = true) by decide)] at H; exact H
                  clear H
                  have H := H1
                  clear H1
                  by_cases c23 : 0 ≤ x9_1
                  · rw [if_pos c23] at H
                    have c23b0 := eq_true c23
                    have c23b1 : decide (0 ≤ x9_1) = true := decide_eq_true c23
                    clear c23
                    by_cases c24 : x9_1 ≤ (l0.length : Int)
                    · rw [if_pos c24] at H
                      have c24b0 := eq_true c24
                      have c24b1 : decide (x9_1 ≤ (l0.length : Int)) = true := decide_eq_true c24
                      clear c24
                      obtain ⟨y112, hy112⟩ : ∃ y_ : List (S46), y_ = (l0.take (x9_1 : Int).toNat) := ⟨_, rfl⟩
                      replace H : (spec_GoodCalls.l1 kj4 l0 l0 (l0.length : Int) x9_1 y112 (y112.length : Int) 0 ((rd_T46 l0 x9_1).f0) ((rd_T46 l0 x9_1).f1) ((rd_T46 l0 x9_1).f2) ((rd_T46 l0 x9_1).f3) ((rd_T46 l0 x9_1).f4) ((rd_T46 l0 x9_1).f5)) = some r := by first | (rw [hy112]; with_reducible exact H) | (have H2_ := (Option.bind_some _ _).symm.trans H; rw [hy112]; with_reducible exact H2_) | (have H2_ := (Option.bind_some _ _).symm.trans H; with_reducible exact H2_) | with_reducible exact H | (rw [hy112]; exact H) | exact H
                      have Ny112 := Aside0.mk hy112
                      clear hy112
                      have H' := Aside0.mk H
                      clear H
                      have q25 : (x9_1 : Int) ≤ ((l0.length : Int) : Int) := of_decide_eq_true (by first | (with_reducible assumption) | assumption)
                      obtain ⟨i025, hi025, _, hsz25, _⟩ := info_parts info46
                      have hroom25 : l0.length ≤ c0 := HC0.out
                      have hC25 : Kd.C k46 _ (some ad107) l0.length l0 := HR0.out
                      have hcut25 := cut_to (P := Tryd.prog) 25 46 .i64 Tryd.underlying25 hi025 (some ad107) l0.length c0 x9_1 (of_decide_eq_true (by first | (with_reducible assumption) | assumption)) q25 hroom25
                      have hr25 := Kd.C_take (m := (x9_1 : Int).toNat) hC25 (by omega)
                      have hy25 : y112.length = (x9_1 : Int).toNat := (by rw [Ny112.out, List.length_take]; omega)
                      rw [← Ny112.out] at hr25
                      rw [← hy25] at hcut25
                      have HR115 := Aside0.mk hr25
                      have HC115 := Aside0.mk (show y112.length ≤ c0 from by omega)
                      clear hr25 hC25 hroom25 hi025 hsz25
                      have KY25 := Aside0.mk hy25
                      clear hy25
                      replace q25 := eq_true q25
                      go_wp2
                      go_loopg [51] kj4 (fun kq v51 w' => ∃ (x51_3 : Int), v51 = .int .i64 x51_3 ∧ Aside0 (spec_GoodCalls.l1 kq l0 l0 (l0.length : Int) x9_1 y112 (y112.length : Int) x51_3 ((rd_T46 l0 x9_1).f0) ((rd_T46 l0 x9_1).f1) ((rd_T46 l0 x9_1).f2) ((rd_T46 l0 x9_1).f3) ((rd_T46 l0 x9_1).f4) ((rd_T46 l0 x9_1).f5) = some r) ∧ Aside0 (kq ≤ kj4) ∧ Aside0 (w'.heap[gb108]? = some (.cells #[.int .i64 ((rd_T46 l0 x9_1).f0), .bool ((rd_T46 l0 x9_1).f1), .string ((rd_T46 l0 x9_1).f2), .string ((rd_T46 l0 x9_1).f3), .int .i64 ((rd_T46 l0 x9_1).f4), .int .i64 ((rd_T46 l0 x9_1).f5)] 46 (0, 0))) ∧ Aside0 (Below w.heap.size w w'))
                      case atStart => exact ⟨(0), (by first | rfl | (simp; done) | (simp [*]; done)), H', ⟨Nat.le_refl _⟩, ⟨by (with_reducible repeat (first | refine blk_drewN ?_ _ | refine blk_drew ?_ | refine blk_alloc ?_ _)); exact BK108.out⟩, ⟨by repeat (first | (with_reducible first | exact HB.out | apply below_alloc | apply pw_below_drewN | apply below_drew1 | refine below_set ?_ GE108.out) | exact HB.out)⟩⟩
                      case round =>
                        clear H'
                        try clear c1
                        try clear p1
                        try clear q1
                        try clear hx1
                        try clear c2
                        try clear c2b0
                        try clear p2
                        try clear q2
                        try clear c3
                        try clear c3b0
                        try clear c4
                        try clear c4b0
                        try clear c9
                        try clear c10
                        try clear p10
                        try clear q10
                        try clear hx10
                        try clear c11
                        try clear c13
                        try clear c14
                        try clear c14b0
                        try clear c16
                        try clear c16b0
                        try clear c22
                        try clear c23
                        try clear c23b0
                        try clear c23b1
                        try clear c24
                        try clear c24b0
                        try clear c24b1
                        try clear q25
                        try clear hcz15_0
                        try clear hcz15_1
                        try clear hcz15_2
                        try clear hcz15_3
                        try clear hcz15_4
                        try clear hcz15_5
                        try clear hcz17_0
                        try clear hcz17_1
                        try clear hcz17_2
                        try clear hcz17_3
                        try clear hcz17_4
                        try clear hcz17_5
                        try clear hcz18_0
                        try clear hcz18_1
                        try clear hcz18_2
                        try clear hcz18_3
                        try clear hcz18_4
                        try clear hcz18_5
                        try clear hcz19_0
                        try clear hcz19_1
                        try clear hcz19_2
                        try clear hcz19_3
                        try clear hcz19_4
                        try clear hcz19_5
                        try clear hcz20_0
                        try clear hcz20_1
                        try clear hcz20_2
                        try clear hcz20_3
                        try clear hcz20_4
                        try clear hcz20_5
                        try clear hcz21_0
                        try clear hcz21_1
                        try clear hcz21_2
                        try clear hcz21_3
                        try clear hcz21_4
                        try clear hcz21_5
                        try clear hcz7_0
                        try clear hcz7_1
                        try clear hcz7_2
                        try clear hcz7_3
                        try clear hcz7_4
                        try clear hcz7_5
                        try clear hfz15_0
                        try clear hfz15_1
                        try clear hfz15_2
                        try clear hfz15_3
                        try clear hfz15_4
                        try clear hfz15_5
                        try clear hfz17_0
                        try clear hfz17_1
                        try clear hfz17_2
                        try clear hfz17_3
                        try clear hfz17_4
                        try clear hfz17_5
                        try clear hfz18_0
                        try clear hfz18_1
                        try clear hfz18_2
                        try clear hfz18_3
                        try clear hfz18_4
                        try clear hfz18_5
                        try clear hfz19_0
                        try clear hfz19_1
                        try clear hfz19_2
                        try clear hfz19_3
                        try clear hfz19_4
                        try clear hfz19_5
                        try clear hfz20_0
                        try clear hfz20_1
                        try clear hfz20_2
                        try clear hfz20_3
                        try clear hfz20_4
                        try clear hfz20_5
                        try clear hfz21_0
                        try clear hfz21_1
                        try clear hfz21_2
                        try clear hfz21_3
                        try clear hfz21_4
                        try clear hfz21_5
                        try clear hfz7_0
                        try clear hfz7_1
                        try clear hfz7_2
                        try clear hfz7_3
                        try clear hfz7_4
                        try clear hfz7_5
                        try clear hx107_0
                        try clear hx107_1
                        try clear hx107_2
                        try clear hx107_3
                        try clear hx107_4
                        try clear hx107_5
                        try clear p1
                        try clear p10
                        try clear p107
                        try clear p2
                        try clear q1
                        try clear q10
                        try clear q107
                        try clear q25
                        obtain ⟨x51_3, rfl, HA, HK3, BK108, HB⟩ := hrel
                        cases gk with
                        | zero => exact absurd HA.out (by simp [spec_GoodCalls.l1])
                        | succ k3 =>
                          have H := HA.out
                          clear HA
                          simp only [spec_GoodCalls.l1] at H
                          by_cases c26 : x51_3 < (y112.length : Int)
                          · rw [if_pos c26] at H
                            have c26b0 : decide (x51_3 < (y112.length : Int)) = true := decide_eq_true c26
                            clear c26
                            by_cases c27 : 0 ≤ x51_3
                            · rw [if_pos c27] at H
                              have c27b0 : decide (0 ≤ x51_3) = true := decide_eq_true c27
                              clear c27
                              by_cases c28 : x51_3 < (y112.length : Int)
                              · rw [if_pos c28] at H
                                have c28b0 : decide (x51_3 < (y112.length : Int)) = true := decide_eq_true c28
                                clear c28
                                by_cases c29 : ((rd_T46 y112 x51_3).f4) = ((rd_T46 l0 x9_1).f4)
                                · rw [if_pos c29] at H
                                  have c29b0 : (((rd_T46 y112 x51_3).f4) == ((rd_T46 l0 x9_1).f4)) = true := beq_iff_eq.mpr c29
                                  have c29b1 : (((rd_T46 y112 x51_3).f4) != ((rd_T46 l0 x9_1).f4)) = false := bne_eq_false_iff_eq.mpr c29
                                  clear c29
                                  obtain rfl := Option.some.inj H
                                  have p116 : 0 ≤ (x51_3 : Int) := of_decide_eq_true (by first | (with_reducible assumption) | assumption)
                                  have q116 : x51_3 < (y112.length : Int) := of_decide_eq_true (by first | (with_reducible assumption) | assumption)
                                  obtain ⟨ad116, e116, hx116_0, hx116_1, hx116_2, hx116_3, hx116_4, hx116_5⟩ := at_T46 HR115.out x51_3 p116 q116
                                  obtain rfl : ad107 = ad116 := (by injection e116)
                                  replace hx116_0 := (HB.out.cell (World.block_lt_of_cell? w _ hx116_0)).trans hx116_0
                                  replace hx116_1 := (HB.out.cell (World.block_lt_of_cell? w _ hx116_1)).trans hx116_1
                                  replace hx116_2 := (HB.out.cell (World.block_lt_of_cell? w _ hx116_2)).trans hx116_2
                                  replace hx116_3 := (HB.out.cell (World.block_lt_of_cell? w _ hx116_3)).trans hx116_3
                                  replace hx116_4 := (HB.out.cell (World.block_lt_of_cell? w _ hx116_4)).trans hx116_4
                                  replace hx116_5 := (HB.out.cell (World.block_lt_of_cell? w _ hx116_5)).trans hx116_5
                                  replace p116 := eq_true p116
                                  replace q116 := eq_true q116
                                  go_wp2_with (first | ((with_reducible refine gate_dst (N := 6) rfl ?_); refine box_event ?hg (N := 6) ?hd (cs := #[.int .i64 0, .bool false, .string (⟨#[]⟩ : ByteArray), .string (⟨#[]⟩ : ByteArray), .int .i64 0, .int .i64 0]) (t := 46) ?hr ?_; (case hd => rfl); (case hg => rfl); (case hr => first | (go_simp; done) | (go_simp; rfl)); intro gb117 hg w30 hbox hb; have n0_ := Aside0.mk (blk_below (g := gb108) (o := .cells #[.int .i64 ((rd_T46 l0 x9_1).f0), .bool ((rd_T46 l0 x9_1).f1), .string ((rd_T46 l0 x9_1).f2), .string ((rd_T46 l0 x9_1).f3), .int .i64 ((rd_T46 l0 x9_1).f4), .int .i64 ((rd_T46 l0 x9_1).f5)] 46 (0, 0)) (by (with_reducible repeat (first | refine blk_drewN ?_ _ | refine blk_drew ?_ | refine blk_alloc ?_ _)); exact BK108.out) hb); have n1_ := Aside0.mk (below_step (by repeat (first | (with_reducible first | exact HB.out | apply below_alloc | apply pw_below_drewN | apply below_drew1 | refine below_set ?_ GE108.out) | exact HB.out)) hb); have n2_ := Aside0.mk (hbox); have n3_ := Aside0.mk ((by rw [hg]; exact (below_size (by repeat (first | (with_reducible first | exact HB.out | apply below_alloc | apply pw_below_drewN | apply below_drew1 | refine below_set ?_ GE108.out) | exact HB.out))) : w.heap.size ≤ gb117)); have n4_ := Aside0.mk ((by rw [hg]; exact (below_size (by repeat (first | (with_reducible first | exact HB.out | apply below_alloc | apply pw_below_drewN | apply below_drew1 | refine below_set ?_ GE108.out) | exact HB.out))) : w.heap.size ≤ gb117)); have n5_ := Aside0.mk ((by rw [hg]; exact Nat.ne_of_lt (blk_lt (g := gb108) (o := .cells #[.int .i64 ((rd_T46 l0 x9_1).f0), .bool ((rd_T46 l0 x9_1).f1), .string ((rd_T46 l0 x9_1).f2), .string ((rd_T46 l0 x9_1).f3), .int .i64 ((rd_T46 l0 x9_1).f4), .int .i64 ((rd_T46 l0 x9_1).f5)] 46 (0, 0)) (by (with_reducible repeat (first | refine blk_drewN ?_ _ | refine blk_drew ?_ | refine blk_alloc ?_ _)); exact BK108.out)) : gb108 ≠ gb117)); have n6_ := Aside0.mk ((by rw [hg]; exact Nat.ne_of_gt (blk_lt (g := gb108) (o := .cells #[.int .i64 ((rd_T46 l0 x9_1).f0), .bool ((rd_T46 l0 x9_1).f1), .string ((rd_T46 l0 x9_1).f2), .string ((rd_T46 l0 x9_1).f3), .int .i64 ((rd_T46 l0 x9_1).f4), .int .i64 ((rd_T46 l0 x9_1).f5)] 46 (0, 0)) (by (with_reducible repeat (first | refine blk_drewN ?_ _ | refine blk_drew ?_ | refine blk_alloc ?_ _)); exact BK108.out)) : gb117 ≠ gb108)); clear BK108; clear HB; have BK108 := n0_; have HB := n1_; have BK117 := n2_; have GW117 := n3_; have GE117 := n4_; have NB108_117 := n5_; have NB117_108 := n6_; clear n0_ n1_ n2_ n3_ n4_ n5_ n6_; clear hb hbox hg; have hnb31 := NB117_108.out; have hnc31 := NB108_117.out; have hcz32_0 : w30.cell? ⟨gb117, 0, none⟩ = some (.int .i64 0) := (blk_cell BK117.out 0).trans rfl; have hcz32_1 : w30.cell? ⟨gb117, 1, none⟩ = some (.bool false) := (blk_cell BK117.out 1).trans rfl; have hcz32_2 : w30.cell? ⟨gb117, 2, none⟩ = some (.string (⟨#[]⟩ : ByteArray)) := (blk_cell BK117.out 2).trans rfl; have hcz32_3 : w30.cell? ⟨gb117, 3, none⟩ = some (.string (⟨#[]⟩ : ByteArray)) := (blk_cell BK117.out 3).trans rfl; have hcz32_4 : w30.cell? ⟨gb117, 4, none⟩ = some (.int .i64 0) := (blk_cell BK117.out 4).trans rfl; have hcz32_5 : w30.cell? ⟨gb117, 5, none⟩ = some (.int .i64 0) := (blk_cell BK117.out 5).trans rfl; have hfz32_0 := blk_frozen BK117.out 0; have hfz32_1 := blk_frozen BK117.out 1; have hfz32_2 := blk_frozen BK117.out 2; have hfz32_3 := blk_frozen BK117.out 3; have hfz32_4 := blk_frozen BK117.out 4; have hfz32_5 := blk_frozen BK117.out 5; have hcz33_0 : w30.cell? ⟨gb108, 0, none⟩ = some (.int .i64 ((rd_T46 l0 x9_1).f0)) := (blk_cell BK108.out 0).trans rfl; have hcz33_1 : w30.cell? ⟨gb108, 1, none⟩ = some (.bool ((rd_T46 l0 x9_1).f1)) := (blk_cell BK108.out 1).trans rfl; have hcz33_2 : w30.cell? ⟨gb108, 2, none⟩ = some (.string ((rd_T46 l0 x9_1).f2)) := (blk_cell BK108.out 2).trans rfl; have hcz33_3 : w30.cell? ⟨gb108, 3, none⟩ = some (.string ((rd_T46 l0 x9_1).f3)) := (blk_cell BK108.out 3).trans rfl; have hcz33_4 : w30.cell? ⟨gb108, 4, none⟩ = some (.int .i64 ((rd_T46 l0 x9_1).f4)) := (blk_cell BK108.out 4).trans rfl; have hcz33_5 : w30.cell? ⟨gb108, 5, none⟩ = some (.int .i64 ((rd_T46 l0 x9_1).f5)) := (blk_cell BK108.out 5).trans rfl; have hfz33_0 := blk_frozen BK108.out 0; have hfz33_1 := blk_frozen BK108.out 1; have hfz33_2 := blk_frozen BK108.out 2; have hfz33_3 := blk_frozen BK108.out 3; have hfz33_4 := blk_frozen BK108.out 4; have hfz33_5 := blk_frozen BK108.out 5))
                                  go_ret
                                  exact ⟨by first | rfl | (simp [errW_none, errW_some] <;> rfl) | (simp [*, errW_none, errW_some] <;> rfl), by repeat (first | (with_reducible first | exact HB.out | apply below_alloc | apply pw_below_drewN | apply below_drew1 | refine below_set ?_ GE108.out | refine below_set ?_ GE117.out) | exact HB.out)⟩
                                · rw [if_neg c29] at H
                                  have c29b0 : (((rd_T46 y112 x51_3).f4) == ((rd_T46 l0 x9_1).f4)) = false := beq_eq_false_iff_ne.mpr c29
                                  have c29b1 : (((rd_T46 y112 x51_3).f4) != ((rd_T46 l0 x9_1).f4)) = true := bne_iff_ne.mpr c29
                                  by_cases c34 : ((rd_T46 y112 x51_3).f4) = ((rd_T46 l0 x9_1).f5)
                                  · rw [if_pos c34] at H
                                    have c34b0 : (((rd_T46 y112 x51_3).f4) == ((rd_T46 l0 x9_1).f5)) = true := beq_iff_eq.mpr c34
                                    have c34b1 : (((rd_T46 y112 x51_3).f4) != ((rd_T46 l0 x9_1).f5)) = false := bne_eq_false_iff_eq.mpr c34
                                    clear c34
                                    obtain rfl := Option.some.inj H
                                    have p116 : 0 ≤ (x51_3 : Int) := of_decide_eq_true (by first | (with_reducible assumption) | assumption)
                                    have q116 : x51_3 < (y112.length : Int) := of_decide_eq_true (by first | (with_reducible assumption) | assumption)
                                    obtain ⟨ad116, e116, hx116_0, hx116_1, hx116_2, hx116_3, hx116_4, hx116_5⟩ := at_T46 HR115.out x51_3 p116 q116
                                    obtain rfl : ad107 = ad116 := (by injection e116)
                                    replace hx116_0 := (HB.out.cell (World.block_lt_of_cell? w _ hx116_0)).trans hx116_0
                                    replace hx116_1 := (HB.out.cell (World.block_lt_of_cell? w _ hx116_1)).trans hx116_1
                                    replace hx116_2 := (HB.out.cell (World.block_lt_of_cell? w _ hx116_2)).trans hx116_2
                                    replace hx116_3 := (HB.out.cell (World.block_lt_of_cell? w _ hx116_3)).trans hx116_3
                                    replace hx116_4 := (HB.out.cell (World.block_lt_of_cell? w _ hx116_4)).trans hx116_4
                                    replace hx116_5 := (HB.out.cell (World.block_lt_of_cell? w _ hx116_5)).trans hx116_5
                                    replace p116 := eq_true p116
                                    replace q116 := eq_true q116
                                    go_wp2_with (first | ((with_reducible refine gate_dst (N := 6) rfl ?_); refine box_event ?hg (N := 6) ?hd (cs := #[.int .i64 0, .bool false, .string (⟨#[]⟩ : ByteArray), .string (⟨#[]⟩ : ByteArray), .int .i64 0, .int .i64 0]) (t := 46) ?hr ?_; (case hd => rfl); (case hg => rfl); (case hr => first | (go_simp; done) | (go_simp; rfl)); intro gb117 hg w35 hbox hb; have n0_ := Aside0.mk (blk_below (g := gb108) (o := .cells #[.int .i64 ((rd_T46 l0 x9_1).f0), .bool ((rd_T46 l0 x9_1).f1), .string ((rd_T46 l0 x9_1).f2), .string ((rd_T46 l0 x9_1).f3), .int .i64 ((rd_T46 l0 x9_1).f4), .int .i64 ((rd_T46 l0 x9_1).f5)] 46 (0, 0)) (by (with_reducible repeat (first | refine blk_drewN ?_ _ | refine blk_drew ?_ | refine blk_alloc ?_ _)); exact BK108.out) hb); have n1_ := Aside0.mk (below_step (by repeat (first | (with_reducible first | exact HB.out | apply below_alloc | apply pw_below_drewN | apply below_drew1 | refine below_set ?_ GE108.out) | exact HB.out)) hb); have n2_ := Aside0.mk (hbox); have n3_ := Aside0.mk ((by rw [hg]; exact (below_size (by repeat (first | (with_reducible first | exact HB.out | apply below_alloc | apply pw_below_drewN | apply below_drew1 | refine below_set ?_ GE108.out) | exact HB.out))) : w.heap.size ≤ gb117)); have n4_ := Aside0.mk ((by rw [hg]; exact (below_size (by repeat (first | (with_reducible first | exact HB.out | apply below_alloc | apply pw_below_drewN | apply below_drew1 | refine below_set ?_ GE108.out) | exact HB.out))) : w.heap.size ≤ gb117)); have n5_ := Aside0.mk ((by rw [hg]; exact Nat.ne_of_lt (blk_lt (g := gb108) (o := .cells #[.int .i64 ((rd_T46 l0 x9_1).f0), .bool ((rd_T46 l0 x9_1).f1), .string ((rd_T46 l0 x9_1).f2), .string ((rd_T46 l0 x9_1).f3), .int .i64 ((rd_T46 l0 x9_1).f4), .int .i64 ((rd_T46 l0 x9_1).f5)] 46 (0, 0)) (by (with_reducible repeat (first | refine blk_drewN ?_ _ | refine blk_drew ?_ | refine blk_alloc ?_ _)); exact BK108.out)) : gb108 ≠ gb117)); have n6_ := Aside0.mk ((by rw [hg]; exact Nat.ne_of_gt (blk_lt (g := gb108) (o := .cells #[.int .i64 ((rd_T46 l0 x9_1).f0), .bool ((rd_T46 l0 x9_1).f1), .string ((rd_T46 l0 x9_1).f2), .string ((rd_T46 l0 x9_1).f3), .int .i64 ((rd_T46 l0 x9_1).f4), .int .i64 ((rd_T46 l0 x9_1).f5)] 46 (0, 0)) (by (with_reducible repeat (first | refine blk_drewN ?_ _ | refine blk_drew ?_ | refine blk_alloc ?_ _)); exact BK108.out)) : gb117 ≠ gb108)); clear BK108; clear HB; have BK108 := n0_; have HB := n1_; have BK117 := n2_; have GW117 := n3_; have GE117 := n4_; have NB108_117 := n5_; have NB117_108 := n6_; clear n0_ n1_ n2_ n3_ n4_ n5_ n6_; clear hb hbox hg; have hnb36 := NB117_108.out; have hnc36 := NB108_117.out; have hcz37_0 : w35.cell? ⟨gb117, 0, none⟩ = some (.int .i64 0) := (blk_cell BK117.out 0).trans rfl; have hcz37_1 : w35.cell? ⟨gb117, 1, none⟩ = some (.bool false) := (blk_cell BK117.out 1).trans rfl; have hcz37_2 : w35.cell? ⟨gb117, 2, none⟩ = some (.string (⟨#[]⟩ : ByteArray)) := (blk_cell BK117.out 2).trans rfl; have hcz37_3 : w35.cell? ⟨gb117, 3, none⟩ = some (.string (⟨#[]⟩ : ByteArray)) := (blk_cell BK117.out 3).trans rfl; have hcz37_4 : w35.cell? ⟨gb117, 4, none⟩ = some (.int .i64 0) := (blk_cell BK117.out 4).trans rfl; have hcz37_5 : w35.cell? ⟨gb117, 5, none⟩ = some (.int .i64 0) := (blk_cell BK117.out 5).trans rfl; have hfz37_0 := blk_frozen BK117.out 0; have hfz37_1 := blk_frozen BK117.out 1; have hfz37_2 := blk_frozen BK117.out 2; have hfz37_3 := blk_frozen BK117.out 3; have hfz37_4 := blk_frozen BK117.out 4; have hfz37_5 := blk_frozen BK117.out 5; have hcz38_0 : w35.cell? ⟨gb108, 0, none⟩ = some (.int .i64 ((rd_T46 l0 x9_1).f0)) := (blk_cell BK108.out 0).trans rfl; have hcz38_1 : w35.cell? ⟨gb108, 1, none⟩ = some (.bool ((rd_T46 l0 x9_1).f1)) := (blk_cell BK108.out 1).trans rfl; have hcz38_2 : w35.cell? ⟨gb108, 2, none⟩ = some (.string ((rd_T46 l0 x9_1).f2)) := (blk_cell BK108.out 2).trans rfl; have hcz38_3 : w35.cell? ⟨gb108, 3, none⟩ = some (.string ((rd_T46 l0 x9_1).f3)) := (blk_cell BK108.out 3).trans rfl; have hcz38_4 : w35.cell? ⟨gb108, 4, none⟩ = some (.int .i64 ((rd_T46 l0 x9_1).f4)) := (blk_cell BK108.out 4).trans rfl; have hcz38_5 : w35.cell? ⟨gb108, 5, none⟩ = some (.int .i64 ((rd_T46 l0 x9_1).f5)) := (blk_cell BK108.out 5).trans rfl; have hfz38_0 := blk_frozen BK108.out 0; have hfz38_1 := blk_frozen BK108.out 1; have hfz38_2 := blk_frozen BK108.out 2; have hfz38_3 := blk_frozen BK108.out 3; have hfz38_4 := blk_frozen BK108.out 4; have hfz38_5 := blk_frozen BK108.out 5))
                                    go_ret
                                    exact ⟨by first | rfl | (simp [errW_none, errW_some] <;> rfl) | (simp [*, errW_none, errW_some] <;> rfl), by repeat (first | (with_reducible first | exact HB.out | apply below_alloc | apply pw_below_drewN | apply below_drew1 | refine below_set ?_ GE108.out | refine below_set ?_ GE117.out) | exact HB.out)⟩
                                  · rw [if_neg c34] at H
                                    have c34b0 : (((rd_T46 y112 x51_3).f4) == ((rd_T46 l0 x9_1).f5)) = false := beq_eq_false_iff_ne.mpr c34
                                    have c34b1 : (((rd_T46 y112 x51_3).f4) != ((rd_T46 l0 x9_1).f5)) = true := bne_iff_ne.mpr c34
                                    by_cases c39 : ((rd_T46 y112 x51_3).f5) = ((rd_T46 l0 x9_1).f4)
                                    · rw [if_pos c39] at H
                                      have c39b0 : (((rd_T46 y112 x51_3).f5) == ((rd_T46 l0 x9_1).f4)) = true := beq_iff_eq.mpr c39
                                      have c39b1 : (((rd_T46 y112 x51_3).f5) != ((rd_T46 l0 x9_1).f4)) = false := bne_eq_false_iff_eq.mpr c39
                                      clear c39
                                      obtain rfl := Option.some.inj H
                                      have p116 : 0 ≤ (x51_3 : Int) := of_decide_eq_true (by first | (with_reducible assumption) | assumption)
                                      have q116 : x51_3 < (y112.length : Int) := of_decide_eq_true (by first | (with_reducible assumption) | assumption)
                                      obtain ⟨ad116, e116, hx116_0, hx116_1, hx116_2, hx116_3, hx116_4, hx116_5⟩ := at_T46 HR115.out x51_3 p116 q116
                                      obtain rfl : ad107 = ad116 := (by injection e116)
                                      replace hx116_0 := (HB.out.cell (World.block_lt_of_cell? w _ hx116_0)).trans hx116_0
                                      replace hx116_1 := (HB.out.cell (World.block_lt_of_cell? w _ hx116_1)).trans hx116_1
                                      replace hx116_2 := (HB.out.cell (World.block_lt_of_cell? w _ hx116_2)).trans hx116_2
                                      replace hx116_3 := (HB.out.cell (World.block_lt_of_cell? w _ hx116_3)).trans hx116_3
                                      replace hx116_4 := (HB.out.cell (World.block_lt_of_cell? w _ hx116_4)).trans hx116_4
                                      replace hx116_5 := (HB.out.cell (World.block_lt_of_cell? w _ hx116_5)).trans hx116_5
                                      replace p116 := eq_true p116
                                      replace q116 := eq_true q116
                                      go_wp2_with (first | ((with_reducible refine gate_dst (N := 6) rfl ?_); refine box_event ?hg (N := 6) ?hd (cs := #[.int .i64 0, .bool false, .string (⟨#[]⟩ : ByteArray), .string (⟨#[]⟩ : ByteArray), .int .i64 0, .int .i64 0]) (t := 46) ?hr ?_; (case hd => rfl); (case hg => rfl); (case hr => first | (go_simp; done) | (go_simp; rfl)); intro gb117 hg w40 hbox hb; have n0_ := Aside0.mk (blk_below (g := gb108) (o := .cells #[.int .i64 ((rd_T46 l0 x9_1).f0), .bool ((rd_T46 l0 x9_1).f1), .string ((rd_T46 l0 x9_1).f2), .string ((rd_T46 l0 x9_1).f3), .int .i64 ((rd_T46 l0 x9_1).f4), .int .i64 ((rd_T46 l0 x9_1).f5)] 46 (0, 0)) (by (with_reducible repeat (first | refine blk_drewN ?_ _ | refine blk_drew ?_ | refine blk_alloc ?_ _)); exact BK108.out) hb); have n1_ := Aside0.mk (below_step (by repeat (first | (with_reducible first | exact HB.out | apply below_alloc | apply pw_below_drewN | apply below_drew1 | refine below_set ?_ GE108.out) | exact HB.out)) hb); have n2_ := Aside0.mk (hbox); have n3_ := Aside0.mk ((by rw [hg]; exact (below_size (by repeat (first | (with_reducible first | exact HB.out | apply below_alloc | apply pw_below_drewN | apply below_drew1 | refine below_set ?_ GE108.out) | exact HB.out))) : w.heap.size ≤ gb117)); have n4_ := Aside0.mk ((by rw [hg]; exact (below_size (by repeat (first | (with_reducible first | exact HB.out | apply below_alloc | apply pw_below_drewN | apply below_drew1 | refine below_set ?_ GE108.out) | exact HB.out))) : w.heap.size ≤ gb117)); have n5_ := Aside0.mk ((by rw [hg]; exact Nat.ne_of_lt (blk_lt (g := gb108) (o := .cells #[.int .i64 ((rd_T46 l0 x9_1).f0), .bool ((rd_T46 l0 x9_1).f1), .string ((rd_T46 l0 x9_1).f2), .string ((rd_T46 l0 x9_1).f3), .int .i64 ((rd_T46 l0 x9_1).f4), .int .i64 ((rd_T46 l0 x9_1).f5)] 46 (0, 0)) (by (with_reducible repeat (first | refine blk_drewN ?_ _ | refine blk_drew ?_ | refine blk_alloc ?_ _)); exact BK108.out)) : gb108 ≠ gb117)); have n6_ := Aside0.mk ((by rw [hg]; exact Nat.ne_of_gt (blk_lt (g := gb108) (o := .cells #[.int .i64 ((rd_T46 l0 x9_1).f0), .bool ((rd_T46 l0 x9_1).f1), .string ((rd_T46 l0 x9_1).f2), .string ((rd_T46 l0 x9_1).f3), .int .i64 ((rd_T46 l0 x9_1).f4), .int .i64 ((rd_T46 l0 x9_1).f5)] 46 (0, 0)) (by (with_reducible repeat (first | refine blk_drewN ?_ _ | refine blk_drew ?_ | refine blk_alloc ?_ _)); exact BK108.out)) : gb117 ≠ gb108)); clear BK108; clear HB; have BK108 := n0_; have HB := n1_; have BK117 := n2_; have GW117 := n3_; have GE117 := n4_; have NB108_117 := n5_; have NB117_108 := n6_; clear n0_ n1_ n2_ n3_ n4_ n5_ n6_; clear hb hbox hg; have hnb41 := NB117_108.out; have hnc41 := NB108_117.out; have hcz42_0 : w40.cell? ⟨gb117, 0, none⟩ = some (.int .i64 0) := (blk_cell BK117.out 0).trans rfl; have hcz42_1 : w40.cell? ⟨gb117, 1, none⟩ = some (.bool false) := (blk_cell BK117.out 1).trans rfl; have hcz42_2 : w40.cell? ⟨gb117, 2, none⟩ = some (.string (⟨#[]⟩ : ByteArray)) := (blk_cell BK117.out 2).trans rfl; have hcz42_3 : w40.cell? ⟨gb117, 3, none⟩ = some (.string (⟨#[]⟩ : ByteArray)) := (blk_cell BK117.out 3).trans rfl; have hcz42_4 : w40.cell? ⟨gb117, 4, none⟩ = some (.int .i64 0) := (blk_cell BK117.out 4).trans rfl; have hcz42_5 : w40.cell? ⟨gb117, 5, none⟩ = some (.int .i64 0) := (blk_cell BK117.out 5).trans rfl; have hfz42_0 := blk_frozen BK117.out 0; have hfz42_1 := blk_frozen BK117.out 1; have hfz42_2 := blk_frozen BK117.out 2; have hfz42_3 := blk_frozen BK117.out 3; have hfz42_4 := blk_frozen BK117.out 4; have hfz42_5 := blk_frozen BK117.out 5; have hcz43_0 : w40.cell? ⟨gb108, 0, none⟩ = some (.int .i64 ((rd_T46 l0 x9_1).f0)) := (blk_cell BK108.out 0).trans rfl; have hcz43_1 : w40.cell? ⟨gb108, 1, none⟩ = some (.bool ((rd_T46 l0 x9_1).f1)) := (blk_cell BK108.out 1).trans rfl; have hcz43_2 : w40.cell? ⟨gb108, 2, none⟩ = some (.string ((rd_T46 l0 x9_1).f2)) := (blk_cell BK108.out 2).trans rfl; have hcz43_3 : w40.cell? ⟨gb108, 3, none⟩ = some (.string ((rd_T46 l0 x9_1).f3)) := (blk_cell BK108.out 3).trans rfl; have hcz43_4 : w40.cell? ⟨gb108, 4, none⟩ = some (.int .i64 ((rd_T46 l0 x9_1).f4)) := (blk_cell BK108.out 4).trans rfl; have hcz43_5 : w40.cell? ⟨gb108, 5, none⟩ = some (.int .i64 ((rd_T46 l0 x9_1).f5)) := (blk_cell BK108.out 5).trans rfl; have hfz43_0 := blk_frozen BK108.out 0; have hfz43_1 := blk_frozen BK108.out 1; have hfz43_2 := blk_frozen BK108.out 2; have hfz43_3 := blk_frozen BK108.out 3; have hfz43_4 := blk_frozen BK108.out 4; have hfz43_5 := blk_frozen BK108.out 5))
                                      go_ret
                                      exact ⟨by first | rfl | (simp [errW_none, errW_some] <;> rfl) | (simp [*, errW_none, errW_some] <;> rfl), by repeat (first | (with_reducible first | exact HB.out | apply below_alloc | apply pw_below_drewN | apply below_drew1 | refine below_set ?_ GE108.out | refine below_set ?_ GE117.out) | exact HB.out)⟩
                                    · rw [if_neg c39] at H
                                      have c39b0 : (((rd_T46 y112 x51_3).f5) == ((rd_T46 l0 x9_1).f4)) = false := beq_eq_false_iff_ne.mpr c39
                                      have c39b1 : (((rd_T46 y112 x51_3).f5) != ((rd_T46 l0 x9_1).f4)) = true := bne_iff_ne.mpr c39
                                      by_cases c44 : ((rd_T46 y112 x51_3).f5) = ((rd_T46 l0 x9_1).f5)
                                      · rw [if_pos c44] at H
                                        have c44b0 : (((rd_T46 y112 x51_3).f5) == ((rd_T46 l0 x9_1).f5)) = true := beq_iff_eq.mpr c44
                                        have c44b1 : (((rd_T46 y112 x51_3).f5) != ((rd_T46 l0 x9_1).f5)) = false := bne_eq_false_iff_eq.mpr c44
                                        clear c44
                                        obtain rfl := Option.some.inj H
                                        have p116 : 0 ≤ (x51_3 : Int) := of_decide_eq_true (by first | (with_reducible assumption) | assumption)
                                        have q116 : x51_3 < (y112.length : Int) := of_decide_eq_true (by first | (with_reducible assumption) | assumption)
                                        obtain ⟨ad116, e116, hx116_0, hx116_1, hx116_2, hx116_3, hx116_4, hx116_5⟩ := at_T46 HR115.out x51_3 p116 q116
                                        obtain rfl : ad107 = ad116 := (by injection e116)
                                        replace hx116_0 := (HB.out.cell (World.block_lt_of_cell? w _ hx116_0)).trans hx116_0
                                        replace hx116_1 := (HB.out.cell (World.block_lt_of_cell? w _ hx116_1)).trans hx116_1
                                        replace hx116_2 := (HB.out.cell (World.block_lt_of_cell? w _ hx116_2)).trans hx116_2
                                        replace hx116_3 := (HB.out.cell (World.block_lt_of_cell? w _ hx116_3)).trans hx116_3
                                        replace hx116_4 := (HB.out.cell (World.block_lt_of_cell? w _ hx116_4)).trans hx116_4
                                        replace hx116_5 := (HB.out.cell (World.block_lt_of_cell? w _ hx116_5)).trans hx116_5
                                        replace p116 := eq_true p116
                                        replace q116 := eq_true q116
                                        go_wp2_with (first | ((with_reducible refine gate_dst (N := 6) rfl ?_); refine box_event ?hg (N := 6) ?hd (cs := #[.int .i64 0, .bool false, .string (⟨#[]⟩ : ByteArray), .string (⟨#[]⟩ : ByteArray), .int .i64 0, .int .i64 0]) (t := 46) ?hr ?_; (case hd => rfl); (case hg => rfl); (case hr => first | (go_simp; done) | (go_simp; rfl)); intro gb117 hg w45 hbox hb; have n0_ := Aside0.mk (blk_below (g := gb108) (o := .cells #[.int .i64 ((rd_T46 l0 x9_1).f0), .bool ((rd_T46 l0 x9_1).f1), .string ((rd_T46 l0 x9_1).f2), .string ((rd_T46 l0 x9_1).f3), .int .i64 ((rd_T46 l0 x9_1).f4), .int .i64 ((rd_T46 l0 x9_1).f5)] 46 (0, 0)) (by (with_reducible repeat (first | refine blk_drewN ?_ _ | refine blk_drew ?_ | refine blk_alloc ?_ _)); exact BK108.out) hb); have n1_ := Aside0.mk (below_step (by repeat (first | (with_reducible first | exact HB.out | apply below_alloc | apply pw_below_drewN | apply below_drew1 | refine below_set ?_ GE108.out) | exact HB.out)) hb); have n2_ := Aside0.mk (hbox); have n3_ := Aside0.mk ((by rw [hg]; exact (below_size (by repeat (first | (with_reducible first | exact HB.out | apply below_alloc | apply pw_below_drewN | apply below_drew1 | refine below_set ?_ GE108.out) | exact HB.out))) : w.heap.size ≤ gb117)); have n4_ := Aside0.mk ((by rw [hg]; exact (below_size (by repeat (first | (with_reducible first | exact HB.out | apply below_alloc | apply pw_below_drewN | apply below_drew1 | refine below_set ?_ GE108.out) | exact HB.out))) : w.heap.size ≤ gb117)); have n5_ := Aside0.mk ((by rw [hg]; exact Nat.ne_of_lt (blk_lt (g := gb108) (o := .cells #[.int .i64 ((rd_T46 l0 x9_1).f0), .bool ((rd_T46 l0 x9_1).f1), .string ((rd_T46 l0 x9_1).f2), .string ((rd_T46 l0 x9_1).f3), .int .i64 ((rd_T46 l0 x9_1).f4), .int .i64 ((rd_T46 l0 x9_1).f5)] 46 (0, 0)) (by (with_reducible repeat (first | refine blk_drewN ?_ _ | refine blk_drew ?_ | refine blk_alloc ?_ _)); exact BK108.out)) : gb108 ≠ gb117)); have n6_ := Aside0.mk ((by rw [hg]; exact Nat.ne_of_gt (blk_lt (g := gb108) (o := .cells #[.int .i64 ((rd_T46 l0 x9_1).f0), .bool ((rd_T46 l0 x9_1).f1), .string ((rd_T46 l0 x9_1).f2), .string ((rd_T46 l0 x9_1).f3), .int .i64 ((rd_T46 l0 x9_1).f4), .int .i64 ((rd_T46 l0 x9_1).f5)] 46 (0, 0)) (by (with_reducible repeat (first | refine blk_drewN ?_ _ | refine blk_drew ?_ | refine blk_alloc ?_ _)); exact BK108.out)) : gb117 ≠ gb108)); clear BK108; clear HB; have BK108 := n0_; have HB := n1_; have BK117 := n2_; have GW117 := n3_; have GE117 := n4_; have NB108_117 := n5_; have NB117_108 := n6_; clear n0_ n1_ n2_ n3_ n4_ n5_ n6_; clear hb hbox hg; have hnb46 := NB117_108.out; have hnc46 := NB108_117.out; have hcz47_0 : w45.cell? ⟨gb117, 0, none⟩ = some (.int .i64 0) := (blk_cell BK117.out 0).trans rfl; have hcz47_1 : w45.cell? ⟨gb117, 1, none⟩ = some (.bool false) := (blk_cell BK117.out 1).trans rfl; have hcz47_2 : w45.cell? ⟨gb117, 2, none⟩ = some (.string (⟨#[]⟩ : ByteArray)) := (blk_cell BK117.out 2).trans rfl; have hcz47_3 : w45.cell? ⟨gb117, 3, none⟩ = some (.string (⟨#[]⟩ : ByteArray)) := (blk_cell BK117.out 3).trans rfl; have hcz47_4 : w45.cell? ⟨gb117, 4, none⟩ = some (.int .i64 0) := (blk_cell BK117.out 4).trans rfl; have hcz47_5 : w45.cell? ⟨gb117, 5, none⟩ = some (.int .i64 0) := (blk_cell BK117.out 5).trans rfl; have hfz47_0 := blk_frozen BK117.out 0; have hfz47_1 := blk_frozen BK117.out 1; have hfz47_2 := blk_frozen BK117.out 2; have hfz47_3 := blk_frozen BK117.out 3; have hfz47_4 := blk_frozen BK117.out 4; have hfz47_5 := blk_frozen BK117.out 5; have hcz48_0 : w45.cell? ⟨gb108, 0, none⟩ = some (.int .i64 ((rd_T46 l0 x9_1).f0)) := (blk_cell BK108.out 0).trans rfl; have hcz48_1 : w45.cell? ⟨gb108, 1, none⟩ = some (.bool ((rd_T46 l0 x9_1).f1)) := (blk_cell BK108.out 1).trans rfl; have hcz48_2 : w45.cell? ⟨gb108, 2, none⟩ = some (.string ((rd_T46 l0 x9_1).f2)) := (blk_cell BK108.out 2).trans rfl; have hcz48_3 : w45.cell? ⟨gb108, 3, none⟩ = some (.string ((rd_T46 l0 x9_1).f3)) := (blk_cell BK108.out 3).trans rfl; have hcz48_4 : w45.cell? ⟨gb108, 4, none⟩ = some (.int .i64 ((rd_T46 l0 x9_1).f4)) := (blk_cell BK108.out 4).trans rfl; have hcz48_5 : w45.cell? ⟨gb108, 5, none⟩ = some (.int .i64 ((rd_T46 l0 x9_1).f5)) := (blk_cell BK108.out 5).trans rfl; have hfz48_0 := blk_frozen BK108.out 0; have hfz48_1 := blk_frozen BK108.out 1; have hfz48_2 := blk_frozen BK108.out 2; have hfz48_3 := blk_frozen BK108.out 3; have hfz48_4 := blk_frozen BK108.out 4; have hfz48_5 := blk_frozen BK108.out 5))
                                        go_ret
                                        exact ⟨by first | rfl | (simp [errW_none, errW_some] <;> rfl) | (simp [*, errW_none, errW_some] <;> rfl), by repeat (first | (with_reducible first | exact HB.out | apply below_alloc | apply pw_below_drewN | apply below_drew1 | refine below_set ?_ GE108.out | refine below_set ?_ GE117.out) | exact HB.out)⟩
                                      · rw [if_neg c44] at H
                                        have c44b0 : (((rd_T46 y112 x51_3).f5) == ((rd_T46 l0 x9_1).f5)) = false := beq_eq_false_iff_ne.mpr c44
                                        have c44b1 : (((rd_T46 y112 x51_3).f5) != ((rd_T46 l0 x9_1).f5)) = true := bne_iff_ne.mpr c44
                                        by_cases c49 : ((rd_T46 y112 x51_3).f0) = ((rd_T46 l0 x9_1).f0)
                                        · rw [if_pos c49] at H
                                          have c49b0 : (((rd_T46 y112 x51_3).f0) == ((rd_T46 l0 x9_1).f0)) = true := beq_iff_eq.mpr c49
                                          have c49b1 : (((rd_T46 y112 x51_3).f0) != ((rd_T46 l0 x9_1).f0)) = false := bne_eq_false_iff_eq.mpr c49
                                          clear c49
                                          replace H := Option.bind_eq_some_iff.mp H
                                          obtain ⟨t118, A500, H⟩ := H
                                          replace H : (if t118 = true then (some false) else (spec_GoodCalls.l1 k3 l0 l0 (l0.length : Int) x9_1 y112 (y112.length : Int) (wrap64 (x51_3 + 1)) ((rd_T46 l0 x9_1).f0) ((rd_T46 l0 x9_1).f1) ((rd_T46 l0 x9_1).f2) ((rd_T46 l0 x9_1).f3) ((rd_T46 l0 x9_1).f4) ((rd_T46 l0 x9_1).f5))) = some r := H
                                          have A50 := Aside0.mk A500
                                          clear A500
                                          by_cases c51 : t118 = true
                                          · subst c51
                                            have H1 : (some false) = some r := by rw [if_pos rfl] at H; exact H
                                            clear H
                                            have H := H1
                                            clear H1
                                            obtain rfl := Option.some.inj H
                                            have p116 : 0 ≤ (x51_3 : Int) := of_decide_eq_true (by first | (with_reducible assumption) | assumption)
                                            have q116 : x51_3 < (y112.length : Int) := of_decide_eq_true (by first | (with_reducible assumption) | assumption)
                                            obtain ⟨ad116, e116, hx116_0, hx116_1, hx116_2, hx116_3, hx116_4, hx116_5⟩ := at_T46 HR115.out x51_3 p116 q116
                                            obtain rfl : ad107 = ad116 := (by injection e116)
                                            replace hx116_0 := (HB.out.cell (World.block_lt_of_cell? w _ hx116_0)).trans hx116_0
                                            replace hx116_1 := (HB.out.cell (World.block_lt_of_cell? w _ hx116_1)).trans hx116_1
                                            replace hx116_2 := (HB.out.cell (World.block_lt_of_cell? w _ hx116_2)).trans hx116_2
                                            replace hx116_3 := (HB.out.cell (World.block_lt_of_cell? w _ hx116_3)).trans hx116_3
                                            replace hx116_4 := (HB.out.cell (World.block_lt_of_cell? w _ hx116_4)).trans hx116_4
                                            replace hx116_5 := (HB.out.cell (World.block_lt_of_cell? w _ hx116_5)).trans hx116_5
                                            replace p116 := eq_true p116
                                            replace q116 := eq_true q116
                                            go_wp2_with (first | ((with_reducible refine gate_dst (N := 6) rfl ?_); refine box_event ?hg (N := 6) ?hd (cs := #[.int .i64 0, .bool false, .string (⟨#[]⟩ : ByteArray), .string (⟨#[]⟩ : ByteArray), .int .i64 0, .int .i64 0]) (t := 46) ?hr ?_; (case hd => rfl); (case hg => rfl); (case hr => first | (go_simp; done) | (go_simp; rfl)); intro gb117 hg w52 hbox hb; have n0_ := Aside0.mk (blk_below (g := gb108) (o := .cells #[.int .i64 ((rd_T46 l0 x9_1).f0), .bool ((rd_T46 l0 x9_1).f1), .string ((rd_T46 l0 x9_1).f2), .string ((rd_T46 l0 x9_1).f3), .int .i64 ((rd_T46 l0 x9_1).f4), .int .i64 ((rd_T46 l0 x9_1).f5)] 46 (0, 0)) (by (with_reducible repeat (first | refine blk_drewN ?_ _ | refine blk_drew ?_ | refine blk_alloc ?_ _)); exact BK108.out) hb); have n1_ := Aside0.mk (below_step (by repeat (first | (with_reducible first | exact HB.out | apply below_alloc | apply pw_below_drewN | apply below_drew1 | refine below_set ?_ GE108.out) | exact HB.out)) hb); have n2_ := Aside0.mk (hbox); have n3_ := Aside0.mk ((by rw [hg]; exact (below_size (by repeat (first | (with_reducible first | exact HB.out | apply below_alloc | apply pw_below_drewN | apply below_drew1 | refine below_set ?_ GE108.out) | exact HB.out))) : w.heap.size ≤ gb117)); have n4_ := Aside0.mk ((by rw [hg]; exact (below_size (by repeat (first | (with_reducible first | exact HB.out | apply below_alloc | apply pw_below_drewN | apply below_drew1 | refine below_set ?_ GE108.out) | exact HB.out))) : w.heap.size ≤ gb117)); have n5_ := Aside0.mk ((by rw [hg]; exact Nat.ne_of_lt (blk_lt (g := gb108) (o := .cells #[.int .i64 ((rd_T46 l0 x9_1).f0), .bool ((rd_T46 l0 x9_1).f1), .string ((rd_T46 l0 x9_1).f2), .string ((rd_T46 l0 x9_1).f3), .int .i64 ((rd_T46 l0 x9_1).f4), .int .i64 ((rd_T46 l0 x9_1).f5)] 46 (0, 0)) (by (with_reducible repeat (first | refine blk_drewN ?_ _ | refine blk_drew ?_ | refine blk_alloc ?_ _)); exact BK108.out)) : gb108 ≠ gb117)); have n6_ := Aside0.mk ((by rw [hg]; exact Nat.ne_of_gt (blk_lt (g := gb108) (o := .cells #[.int .i64 ((rd_T46 l0 x9_1).f0), .bool ((rd_T46 l0 x9_1).f1), .string ((rd_T46 l0 x9_1).f2), .string ((rd_T46 l0 x9_1).f3), .int .i64 ((rd_T46 l0 x9_1).f4), .int .i64 ((rd_T46 l0 x9_1).f5)] 46 (0, 0)) (by (with_reducible repeat (first | refine blk_drewN ?_ _ | refine blk_drew ?_ | refine blk_alloc ?_ _)); exact BK108.out)) : gb117 ≠ gb108)); clear BK108; clear HB; have BK108 := n0_; have HB := n1_; have BK117 := n2_; have GW117 := n3_; have GE117 := n4_; have NB108_117 := n5_; have NB117_108 := n6_; clear n0_ n1_ n2_ n3_ n4_ n5_ n6_; clear hb hbox hg; have hnb53 := NB117_108.out; have hnc53 := NB108_117.out; have hcz54_0 : w52.cell? ⟨gb117, 0, none⟩ = some (.int .i64 0) := (blk_cell BK117.out 0).trans rfl; have hcz54_1 : w52.cell? ⟨gb117, 1, none⟩ = some (.bool false) := (blk_cell BK117.out 1).trans rfl; have hcz54_2 : w52.cell? ⟨gb117, 2, none⟩ = some (.string (⟨#[]⟩ : ByteArray)) := (blk_cell BK117.out 2).trans rfl; have hcz54_3 : w52.cell? ⟨gb117, 3, none⟩ = some (.string (⟨#[]⟩ : ByteArray)) := (blk_cell BK117.out 3).trans rfl; have hcz54_4 : w52.cell? ⟨gb117, 4, none⟩ = some (.int .i64 0) := (blk_cell BK117.out 4).trans rfl; have hcz54_5 : w52.cell? ⟨gb117, 5, none⟩ = some (.int .i64 0) := (blk_cell BK117.out 5).trans rfl; have hfz54_0 := blk_frozen BK117.out 0; have hfz54_1 := blk_frozen BK117.out 1; have hfz54_2 := blk_frozen BK117.out 2; have hfz54_3 := blk_frozen BK117.out 3; have hfz54_4 := blk_frozen BK117.out 4; have hfz54_5 := blk_frozen BK117.out 5; have hcz55_0 : w52.cell? ⟨gb108, 0, none⟩ = some (.int .i64 ((rd_T46 l0 x9_1).f0)) := (blk_cell BK108.out 0).trans rfl; have hcz55_1 : w52.cell? ⟨gb108, 1, none⟩ = some (.bool ((rd_T46 l0 x9_1).f1)) := (blk_cell BK108.out 1).trans rfl; have hcz55_2 : w52.cell? ⟨gb108, 2, none⟩ = some (.string ((rd_T46 l0 x9_1).f2)) := (blk_cell BK108.out 2).trans rfl; have hcz55_3 : w52.cell? ⟨gb108, 3, none⟩ = some (.string ((rd_T46 l0 x9_1).f3)) := (blk_cell BK108.out 3).trans rfl; have hcz55_4 : w52.cell? ⟨gb108, 4, none⟩ = some (.int .i64 ((rd_T46 l0 x9_1).f4)) := (blk_cell BK108.out 4).trans rfl; have hcz55_5 : w52.cell? ⟨gb108, 5, none⟩ = some (.int .i64 ((rd_T46 l0 x9_1).f5)) := (blk_cell BK108.out 5).trans rfl; have hfz55_0 := blk_frozen BK108.out 0; have hfz55_1 := blk_frozen BK108.out 1; have hfz55_2 := blk_frozen BK108.out 2; have hfz55_3 := blk_frozen BK108.out 3; have hfz55_4 := blk_frozen BK108.out 4; have hfz55_5 := blk_frozen BK108.out 5) | (go_at_call 34; (with_reducible refine (spec_l7Overlap.calls ((rd_T46 y112 x51_3).f0) ((rd_T46 y112 x51_3).f1) ((rd_T46 y112 x51_3).f2) ((rd_T46 y112 x51_3).f3) ((rd_T46 y112 x51_3).f4) ((rd_T46 y112 x51_3).f5) ((rd_T46 l0 x9_1).f0) ((rd_T46 l0 x9_1).f1) ((rd_T46 l0 x9_1).f2) ((rd_T46 l0 x9_1).f3) ((rd_T46 l0 x9_1).f4) ((rd_T46 l0 x9_1).f5) true _ A50.out).mono ?_); rintro e w56 ⟨rfl, hb⟩; have n0_ := Aside0.mk (blk_below (g := gb108) (o := .cells #[.int .i64 ((rd_T46 l0 x9_1).f0), .bool ((rd_T46 l0 x9_1).f1), .string ((rd_T46 l0 x9_1).f2), .string ((rd_T46 l0 x9_1).f3), .int .i64 ((rd_T46 l0 x9_1).f4), .int .i64 ((rd_T46 l0 x9_1).f5)] 46 (0, 0)) (by (with_reducible repeat (first | refine blk_drewN ?_ _ | refine blk_drew ?_ | refine blk_alloc ?_ _)); refine blk_far ?_ NB108_117.out _; (with_reducible repeat (first | refine blk_drewN ?_ _ | refine blk_drew ?_ | refine blk_alloc ?_ _)); refine blk_far ?_ NB108_117.out _; (with_reducible repeat (first | refine blk_drewN ?_ _ | refine blk_drew ?_ | refine blk_alloc ?_ _)); refine blk_far ?_ NB108_117.out _; (with_reducible repeat (first | refine blk_drewN ?_ _ | refine blk_drew ?_ | refine blk_alloc ?_ _)); refine blk_far ?_ NB108_117.out _; (with_reducible repeat (first | refine blk_drewN ?_ _ | refine blk_drew ?_ | refine blk_alloc ?_ _)); refine blk_far ?_ NB108_117.out _; (with_reducible repeat (first | refine blk_drewN ?_ _ | refine blk_drew ?_ | refine blk_alloc ?_ _)); refine blk_far ?_ NB108_117.out _; (with_reducible repeat (first | refine blk_drewN ?_ _ | refine blk_drew ?_ | refine blk_alloc ?_ _)); exact BK108.out) hb); have n1_ := Aside0.mk (blk_below (g := gb117) (o := .cells #[.int .i64 ((rd_T46 y112 x51_3).f0), .bool ((rd_T46 y112 x51_3).f1), .string ((rd_T46 y112 x51_3).f2), .string ((rd_T46 y112 x51_3).f3), .int .i64 ((rd_T46 y112 x51_3).f4), .int .i64 ((rd_T46 y112 x51_3).f5)] 46 (0, 0)) (by (with_reducible repeat (first | refine blk_drewN ?_ _ | refine blk_drew ?_ | refine blk_alloc ?_ _)); refine blk_put (cs := #[.int .i64 ((rd_T46 y112 x51_3).f0), .bool ((rd_T46 y112 x51_3).f1), .string ((rd_T46 y112 x51_3).f2), .string ((rd_T46 y112 x51_3).f3), .int .i64 ((rd_T46 y112 x51_3).f4), .int .i64 0]) ?_ 5 _ rfl; (with_reducible repeat (first | refine blk_drewN ?_ _ | refine blk_drew ?_ | refine blk_alloc ?_ _)); refine blk_put (cs := #[.int .i64 ((rd_T46 y112 x51_3).f0), .bool ((rd_T46 y112 x51_3).f1), .string ((rd_T46 y112 x51_3).f2), .string ((rd_T46 y112 x51_3).f3), .int .i64 0, .int .i64 0]) ?_ 4 _ rfl; (with_reducible repeat (first | refine blk_drewN ?_ _ | refine blk_drew ?_ | refine blk_alloc ?_ _)); refine blk_put (cs := #[.int .i64 ((rd_T46 y112 x51_3).f0), .bool ((rd_T46 y112 x51_3).f1), .string ((rd_T46 y112 x51_3).f2), .string (⟨#[]⟩ : ByteArray), .int .i64 0, .int .i64 0]) ?_ 3 _ rfl; (with_reducible repeat (first | refine blk_drewN ?_ _ | refine blk_drew ?_ | refine blk_alloc ?_ _)); refine blk_put (cs := #[.int .i64 ((rd_T46 y112 x51_3).f0), .bool ((rd_T46 y112 x51_3).f1), .string (⟨#[]⟩ : ByteArray), .string (⟨#[]⟩ : ByteArray), .int .i64 0, .int .i64 0]) ?_ 2 _ rfl; (with_reducible repeat (first | refine blk_drewN ?_ _ | refine blk_drew ?_ | refine blk_alloc ?_ _)); refine blk_put (cs := #[.int .i64 ((rd_T46 y112 x51_3).f0), .bool false, .string (⟨#[]⟩ : ByteArray), .string (⟨#[]⟩ : ByteArray), .int .i64 0, .int .i64 0]) ?_ 1 _ rfl; (with_reducible repeat (first | refine blk_drewN ?_ _ | refine blk_drew ?_ | refine blk_alloc ?_ _)); refine blk_put (cs := #[.int .i64 0, .bool false, .string (⟨#[]⟩ : ByteArray), .string (⟨#[]⟩ : ByteArray), .int .i64 0, .int .i64 0]) ?_ 0 _ rfl; (with_reducible repeat (first | refine blk_drewN ?_ _ | refine blk_drew ?_ | refine blk_alloc ?_ _)); exact BK117.out) hb); have n2_ := Aside0.mk (below_step (by repeat (first | (with_reducible first | exact HB.out | apply below_alloc | apply pw_below_drewN | apply below_drew1 | refine below_set ?_ GE108.out | refine below_set ?_ GE117.out) | exact HB.out)) hb); clear BK108; clear BK117; clear HB; have BK108 := n0_; have BK117 := n1_; have HB := n2_; clear n0_ n1_ n2_; (try clear hb); (try clear hb2); (try clear hk); (try clear hi)))
                                            go_ret
                                            exact ⟨by first | rfl | (simp [errW_none, errW_some] <;> rfl) | (simp [*, errW_none, errW_some] <;> rfl), by repeat (first | (with_reducible first | exact HB.out | apply below_alloc | apply pw_below_drewN | apply below_drew1 | refine below_set ?_ GE108.out | refine below_set ?_ GE117.out) | exact HB.out)⟩
                                          · replace c51 := Bool.eq_false_iff.mpr c51
                                            subst c51
                                            have H1 : (spec_GoodCalls.l1 k3 l0 l0 (l0.length : Int) x9_1 y112 (y112.length : Int) (wrap64 (x51_3 + 1)) ((rd_T46 l0 x9_1).f0) ((rd_T46 l0 x9_1).f1) ((rd_T46 l0 x9_1).f2) ((rd_T46 l0 x9_1).f3) ((rd_T46 l0 x9_1).f4) ((rd_T46 l0 x9_1).f5)) = some r := by rw [if_neg (show ¬ (false = true) by decide)] at H; exact H
                                            clear H
                                            have H := H1
                                            clear H1
                                            have H' := Aside0.mk H
                                            clear H
                                            have p116 : 0 ≤ (x51_3 : Int) := of_decide_eq_true (by first | (with_reducible assumption) | assumption)
                                            have q116 : x51_3 < (y112.length : Int) := of_decide_eq_true (by first | (with_reducible assumption) | assumption)
                                            obtain ⟨ad116, e116, hx116_0, hx116_1, hx116_2, hx116_3, hx116_4, hx116_5⟩ := at_T46 HR115.out x51_3 p116 q116
                                            obtain rfl : ad107 = ad116 := (by injection e116)
                                            replace hx116_0 := (HB.out.cell (World.block_lt_of_cell? w _ hx116_0)).trans hx116_0
                                            replace hx116_1 := (HB.out.cell (World.block_lt_of_cell? w _ hx116_1)).trans hx116_1
                                            replace hx116_2 := (HB.out.cell (World.block_lt_of_cell? w _ hx116_2)).trans hx116_2
                                            replace hx116_3 := (HB.out.cell (World.block_lt_of_cell? w _ hx116_3)).trans hx116_3
                                            replace hx116_4 := (HB.out.cell (World.block_lt_of_cell? w _ hx116_4)).trans hx116_4
                                            replace hx116_5 := (HB.out.cell (World.block_lt_of_cell? w _ hx116_5)).trans hx116_5
                                            replace p116 := eq_true p116
                                            replace q116 := eq_true q116
                                            go_wp2_with (first | ((with_reducible refine gate_dst (N := 6) rfl ?_); refine box_event ?hg (N := 6) ?hd (cs := #[.int .i64 0, .bool false, .string (⟨#[]⟩ : ByteArray), .string (⟨#[]⟩ : ByteArray), .int .i64 0, .int .i64 0]) (t := 46) ?hr ?_; (case hd => rfl); (case hg => rfl); (case hr => first | (go_simp; done) | (go_simp; rfl)); intro gb117 hg w57 hbox hb; have n0_ := Aside0.mk (blk_below (g := gb108) (o := .cells #[.int .i64 ((rd_T46 l0 x9_1).f0), .bool ((rd_T46 l0 x9_1).f1), .string ((rd_T46 l0 x9_1).f2), .string ((rd_T46 l0 x9_1).f3), .int .i64 ((rd_T46 l0 x9_1).f4), .int .i64 ((rd_T46 l0 x9_1).f5)] 46 (0, 0)) (by (with_reducible repeat (first | refine blk_drewN ?_ _ | refine blk_drew ?_ | refine blk_alloc ?_ _)); exact BK108.out) hb); have n1_ := Aside0.mk (below_step (by repeat (first | (with_reducible first | exact HB.out | apply below_alloc | apply pw_below_drewN | apply below_drew1 | refine below_set ?_ GE108.out) | exact HB.out)) hb); have n2_ := Aside0.mk (hbox); have n3_ := Aside0.mk ((by rw [hg]; exact (below_size (by repeat (first | (with_reducible first | exact HB.out | apply below_alloc | apply pw_below_drewN | apply below_drew1 | refine below_set ?_ GE108.out) | exact HB.out))) : w.heap.size ≤ gb117)); have n4_ := Aside0.mk ((by rw [hg]; exact (below_size (by repeat (first | (with_reducible first | exact HB.out | apply below_alloc | apply pw_below_drewN | apply below_drew1 | refine below_set ?_ GE108.out) | exact HB.out))) : w.heap.size ≤ gb117)); have n5_ := Aside0.mk ((by rw [hg]; exact Nat.ne_of_lt (blk_lt (g := gb108) (o := .cells #[.int .i64 ((rd_T46 l0 x9_1).f0), .bool ((rd_T46 l0 x9_1).f1), .string ((rd_T46 l0 x9_1).f2), .string ((rd_T46 l0 x9_1).f3), .int .i64 ((rd_T46 l0 x9_1).f4), .int .i64 ((rd_T46 l0 x9_1).f5)] 46 (0, 0)) (by (with_reducible repeat (first | refine blk_drewN ?_ _ | refine blk_drew ?_ | refine blk_alloc ?_ _)); exact BK108.out)) : gb108 ≠ gb117)); have n6_ := Aside0.mk ((by rw [hg]; exact Nat.ne_of_gt (blk_lt (g := gb108) (o := .cells #[.int .i64 ((rd_T46 l0 x9_1).f0), .bool ((rd_T46 l0 x9_1).f1), .string ((rd_T46 l0 x9_1).f2), .string ((rd_T46 l0 x9_1).f3), .int .i64 ((rd_T46 l0 x9_1).f4), .int .i64 ((rd_T46 l0 x9_1).f5)] 46 (0, 0)) (by (with_reducible repeat (first | refine blk_drewN ?_ _ | refine blk_drew ?_ | refine blk_alloc ?_ _)); exact BK108.out)) : gb117 ≠ gb108)); clear BK108; clear HB; have BK108 := n0_; have HB := n1_; have BK117 := n2_; have GW117 := n3_; have GE117 := n4_; have NB108_117 := n5_; have NB117_108 := n6_; clear n0_ n1_ n2_ n3_ n4_ n5_ n6_; clear hb hbox hg; have hnb58 := NB117_108.out; have hnc58 := NB108_117.out; have hcz59_0 : w57.cell? ⟨gb117, 0, none⟩ = some (.int .i64 0) := (blk_cell BK117.out 0).trans rfl; have hcz59_1 : w57.cell? ⟨gb117, 1, none⟩ = some (.bool false) := (blk_cell BK117.out 1).trans rfl; have hcz59_2 : w57.cell? ⟨gb117, 2, none⟩ = some (.string (⟨#[]⟩ : ByteArray)) := (blk_cell BK117.out 2).trans rfl; have hcz59_3 : w57.cell? ⟨gb117, 3, none⟩ = some (.string (⟨#[]⟩ : ByteArray)) := (blk_cell BK117.out 3).trans rfl; have hcz59_4 : w57.cell? ⟨gb117, 4, none⟩ = some (.int .i64 0) := (blk_cell BK117.out 4).trans rfl; have hcz59_5 : w57.cell? ⟨gb117, 5, none⟩ = some (.int .i64 0) := (blk_cell BK117.out 5).trans rfl; have hfz59_0 := blk_frozen BK117.out 0; have hfz59_1 := blk_frozen BK117.out 1; have hfz59_2 := blk_frozen BK117.out 2; have hfz59_3 := blk_frozen BK117.out 3; have hfz59_4 := blk_frozen BK117.out 4; have hfz59_5 := blk_frozen BK117.out 5; have hcz60_0 : w57.cell? ⟨gb108, 0, none⟩ = some (.int .i64 ((rd_T46 l0 x9_1).f0)) := (blk_cell BK108.out 0).trans rfl; have hcz60_1 : w57.cell? ⟨gb108, 1, none⟩ = some (.bool ((rd_T46 l0 x9_1).f1)) := (blk_cell BK108.out 1).trans rfl; have hcz60_2 : w57.cell? ⟨gb108, 2, none⟩ = some (.string ((rd_T46 l0 x9_1).f2)) := (blk_cell BK108.out 2).trans rfl; have hcz60_3 : w57.cell? ⟨gb108, 3, none⟩ = some (.string ((rd_T46 l0 x9_1).f3)) := (blk_cell BK108.out 3).trans rfl; have hcz60_4 : w57.cell? ⟨gb108, 4, none⟩ = some (.int .i64 ((rd_T46 l0 x9_1).f4)) := (blk_cell BK108.out 4).trans rfl; have hcz60_5 : w57.cell? ⟨gb108, 5, none⟩ = some (.int .i64 ((rd_T46 l0 x9_1).f5)) := (blk_cell BK108.out 5).trans rfl; have hfz60_0 := blk_frozen BK108.out 0; have hfz60_1 := blk_frozen BK108.out 1; have hfz60_2 := blk_frozen BK108.out 2; have hfz60_3 := blk_frozen BK108.out 3; have hfz60_4 := blk_frozen BK108.out 4; have hfz60_5 := blk_frozen BK108.out 5) | (go_at_call 34; (with_reducible refine (spec_l7Overlap.calls ((rd_T46 y112 x51_3).f0) ((rd_T46 y112 x51_3).f1) ((rd_T46 y112 x51_3).f2) ((rd_T46 y112 x51_3).f3) ((rd_T46 y112 x51_3).f4) ((rd_T46 y112 x51_3).f5) ((rd_T46 l0 x9_1).f0) ((rd_T46 l0 x9_1).f1) ((rd_T46 l0 x9_1).f2) ((rd_T46 l0 x9_1).f3) ((rd_T46 l0 x9_1).f4) ((rd_T46 l0 x9_1).f5) false _ A50.out).mono ?_); rintro e w61 ⟨rfl, hb⟩; have n0_ := Aside0.mk (blk_below (g := gb108) (o := .cells #[.int .i64 ((rd_T46 l0 x9_1).f0), .bool ((rd_T46 l0 x9_1).f1), .string ((rd_T46 l0 x9_1).f2), .string ((rd_T46 l0 x9_1).f3), .int .i64 ((rd_T46 l0 x9_1).f4), .int .i64 ((rd_T46 l0 x9_1).f5)] 46 (0, 0)) (by (with_reducible repeat (first | refine blk_drewN ?_ _ | refine blk_drew ?_ | refine blk_alloc ?_ _)); refine blk_far ?_ NB108_117.out _; (with_reducible repeat (first | refine blk_drewN ?_ _ | refine blk_drew ?_ | refine blk_alloc ?_ _)); refine blk_far ?_ NB108_117.out _; (with_reducible repeat (first | refine blk_drewN ?_ _ | refine blk_drew ?_ | refine blk_alloc ?_ _)); refine blk_far ?_ NB108_117.out _; (with_reducible repeat (first | refine blk_drewN ?_ _ | refine blk_drew ?_ | refine blk_alloc ?_ _)); refine blk_far ?_ NB108_117.out _; (with_reducible repeat (first | refine blk_drewN ?_ _ | refine blk_drew ?_ | refine blk_alloc ?_ _)); refine blk_far ?_ NB108_117.out _; (with_reducible repeat (first | refine blk_drewN ?_ _ | refine blk_drew ?_ | refine blk_alloc ?_ _)); refine blk_far ?_ NB108_117.out _; (with_reducible repeat (first | refine blk_drewN ?_ _ | refine blk_drew ?_ | refine blk_alloc ?_ _)); exact BK108.out) hb); have n1_ := Aside0.mk (blk_below (g := gb117) (o := .cells #[.int .i64 ((rd_T46 y112 x51_3).f0), .bool ((rd_T46 y112 x51_3).f1), .string ((rd_T46 y112 x51_3).f2), .string ((rd_T46 y112 x51_3).f3), .int .i64 ((rd_T46 y112 x51_3).f4), .int .i64 ((rd_T46 y112 x51_3).f5)] 46 (0, 0)) (by (with_reducible repeat (first | refine blk_drewN ?_ _ | refine blk_drew ?_ | refine blk_alloc ?_ _)); refine blk_put (cs := #[.int .i64 ((rd_T46 y112 x51_3).f0), .bool ((rd_T46 y112 x51_3).f1), .string ((rd_T46 y112 x51_3).f2), .string ((rd_T46 y112 x51_3).f3), .int .i64 ((rd_T46 y112 x51_3).f4), .int .i64 0]) ?_ 5 _ rfl; (with_reducible repeat (first | refine blk_drewN ?_ _ | refine blk_drew ?_ | refine blk_alloc ?_ _)); refine blk_put (cs := #[.int .i64 ((rd_T46 y112 x51_3).f0), .bool ((rd_T46 y112 x51_3).f1), .string ((rd_T46 y112 x51_3).f2), .string ((rd_T46 y112 x51_3).f3), .int .i64 0, .int .i64 0]) ?_ 4 _ rfl; (with_reducible repeat (first | refine blk_drewN ?_ _ | refine blk_drew ?_ | refine blk_alloc ?_ _)); refine blk_put (cs := #[.int .i64 ((rd_T46 y112 x51_3).f0), .bool ((rd_T46 y112 x51_3).f1), .string ((rd_T46 y112 x51_3).f2), .string (⟨#[]⟩ : ByteArray), .int .i64 0, .int .i64 0]) ?_ 3 _ rfl; (with_reducible repeat (first | refine blk_drewN ?_ _ | refine blk_drew ?_ | refine blk_alloc ?_ _)); refine blk_put (cs := #[.int .i64 ((rd_T46 y112 x51_3).f0), .bool ((rd_T46 y112 x51_3).f1), .string (⟨#[]⟩ : ByteArray), .string (⟨#[]⟩ : ByteArray), .int .i64 0, .int .i64 0]) ?_ 2 _ rfl; (with_reducible repeat (first | refine blk_drewN ?_ _ | refine blk_drew ?_ | refine blk_alloc ?_ _)); refine blk_put (cs := #[.int .i64 ((rd_T46 y112 x51_3).f0), .bool false, .string (⟨#[]⟩ : ByteArray), .string (⟨#[]⟩ : ByteArray), .int .i64 0, .int .i64 0]) ?_ 1 _ rfl; (with_reducible repeat (first | refine blk_drewN ?_ _ | refine blk_drew ?_ | refine blk_alloc ?_ _)); refine blk_put (cs := #[.int .i64 0, .bool false, .string (⟨#[]⟩ : ByteArray), .string (⟨#[]⟩ : ByteArray), .int .i64 0, .int .i64 0]) ?_ 0 _ rfl; (with_reducible repeat (first | refine blk_drewN ?_ _ | refine blk_drew ?_ | refine blk_alloc ?_ _)); exact BK117.out) hb); have n2_ := Aside0.mk (below_step (by repeat (first | (with_reducible first | exact HB.out | apply below_alloc | apply pw_below_drewN | apply below_drew1 | refine below_set ?_ GE108.out | refine below_set ?_ GE117.out) | exact HB.out)) hb); clear BK108; clear BK117; clear HB; have BK108 := n0_; have BK117 := n1_; have HB := n2_; clear n0_ n1_ n2_; (try clear hb); (try clear hb2); (try clear hk); (try clear hi)))
                                            go_roundg k3
                                            case measure => have := HK1.out; have := HJ4.out; have := HK3.out; omega
                                            case rel => exact ⟨(wrap64 (x51_3 + 1)), (by first | rfl | (simp; done) | (simp [*]; done)), H', ⟨by have := HK1.out; have := HJ4.out; have := HK3.out; omega⟩, ⟨by (with_reducible repeat (first | refine blk_drewN ?_ _ | refine blk_drew ?_ | refine blk_alloc ?_ _)); exact BK108.out⟩, ⟨by repeat (first | (with_reducible first | exact HB.out | apply below_alloc | apply pw_below_drewN | apply below_drew1 | refine below_set ?_ GE108.out | refine below_set ?_ GE117.out) | exact HB.out)⟩⟩
                                        · rw [if_neg c49] at H
                                          have c49b0 : (((rd_T46 y112 x51_3).f0) == ((rd_T46 l0 x9_1).f0)) = false := beq_eq_false_iff_ne.mpr c49
                                          have c49b1 : (((rd_T46 y112 x51_3).f0) != ((rd_T46 l0 x9_1).f0)) = true := bne_iff_ne.mpr c49
                                          have H' := Aside0.mk H
                                          clear H
                                          have p116 : 0 ≤ (x51_3 : Int) := of_decide_eq_true (by first | (with_reducible assumption) | assumption)
                                          have q116 : x51_3 < (y112.length : Int) := of_decide_eq_true (by first | (with_reducible assumption) | assumption)
                                          obtain ⟨ad116, e116, hx116_0, hx116_1, hx116_2, hx116_3, hx116_4, hx116_5⟩ := at_T46 HR115.out x51_3 p116 q116
                                          obtain rfl : ad107 = ad116 := (by injection e116)
                                          replace hx116_0 := (HB.out.cell (World.block_lt_of_cell? w _ hx116_0)).trans hx116_0
                                          replace hx116_1 := (HB.out.cell (World.block_lt_of_cell? w _ hx116_1)).trans hx116_1
                                          replace hx116_2 := (HB.out.cell (World.block_lt_of_cell? w _ hx116_2)).trans hx116_2
                                          replace hx116_3 := (HB.out.cell (World.block_lt_of_cell? w _ hx116_3)).trans hx116_3
                                          replace hx116_4 := (HB.out.cell (World.block_lt_of_cell? w _ hx116_4)).trans hx116_4
                                          replace hx116_5 := (HB.out.cell (World.block_lt_of_cell? w _ hx116_5)).trans hx116_5
                                          replace p116 := eq_true p116
                                          replace q116 := eq_true q116
                                          go_wp2_with (first | ((with_reducible refine gate_dst (N := 6) rfl ?_); refine box_event ?hg (N := 6) ?hd (cs := #[.int .i64 0, .bool false, .string (⟨#[]⟩ : ByteArray), .string (⟨#[]⟩ : ByteArray), .int .i64 0, .int .i64 0]) (t := 46) ?hr ?_; (case hd => rfl); (case hg => rfl); (case hr => first | (go_simp; done) | (go_simp; rfl)); intro gb117 hg w62 hbox hb; have n0_ := Aside0.mk (blk_below (g := gb108) (o := .cells #[.int .i64 ((rd_T46 l0 x9_1).f0), .bool ((rd_T46 l0 x9_1).f1), .string ((rd_T46 l0 x9_1).f2), .string ((rd_T46 l0 x9_1).f3), .int .i64 ((rd_T46 l0 x9_1).f4), .int .i64 ((rd_T46 l0 x9_1).f5)] 46 (0, 0)) (by (with_reducible repeat (first | refine blk_drewN ?_ _ | refine blk_drew ?_ | refine blk_alloc ?_ _)); exact BK108.out) hb); have n1_ := Aside0.mk (below_step (by repeat (first | (with_reducible first | exact HB.out | apply below_alloc | apply pw_below_drewN | apply below_drew1 | refine below_set ?_ GE108.out) | exact HB.out)) hb); have n2_ := Aside0.mk (hbox); have n3_ := Aside0.mk ((by rw [hg]; exact (below_size (by repeat (first | (with_reducible first | exact HB.out | apply below_alloc | apply pw_below_drewN | apply below_drew1 | refine below_set ?_ GE108.out) | exact HB.out))) : w.heap.size ≤ gb117)); have n4_ := Aside0.mk ((by rw [hg]; exact (below_size (by repeat (first | (with_reducible first | exact HB.out | apply below_alloc | apply pw_below_drewN | apply below_drew1 | refine below_set ?_ GE108.out) | exact HB.out))) : w.heap.size ≤ gb117)); have n5_ := Aside0.mk ((by rw [hg]; exact Nat.ne_of_lt (blk_lt (g := gb108) (o := .cells #[.int .i64 ((rd_T46 l0 x9_1).f0), .bool ((rd_T46 l0 x9_1).f1), .string ((rd_T46 l0 x9_1).f2), .string ((rd_T46 l0 x9_1).f3), .int .i64 ((rd_T46 l0 x9_1).f4), .int .i64 ((rd_T46 l0 x9_1).f5)] 46 (0, 0)) (by (with_reducible repeat (first | refine blk_drewN ?_ _ | refine blk_drew ?_ | refine blk_alloc ?_ _)); exact BK108.out)) : gb108 ≠ gb117)); have n6_ := Aside0.mk ((by rw [hg]; exact Nat.ne_of_gt (blk_lt (g := gb108) (o := .cells #[.int .i64 ((rd_T46 l0 x9_1).f0), .bool ((rd_T46 l0 x9_1).f1), .string ((rd_T46 l0 x9_1).f2), .string ((rd_T46 l0 x9_1).f3), .int .i64 ((rd_T46 l0 x9_1).f4), .int .i64 ((rd_T46 l0 x9_1).f5)] 46 (0, 0)) (by (with_reducible repeat (first | refine blk_drewN ?_ _ | refine blk_drew ?_ | refine blk_alloc ?_ _)); exact BK108.out)) : gb117 ≠ gb108)); clear BK108; clear HB; have BK108 := n0_; have HB := n1_; have BK117 := n2_; have GW117 := n3_; have GE117 := n4_; have NB108_117 := n5_; have NB117_108 := n6_; clear n0_ n1_ n2_ n3_ n4_ n5_ n6_; clear hb hbox hg; have hnb63 := NB117_108.out; have hnc63 := NB108_117.out; have hcz64_0 : w62.cell? ⟨gb117, 0, none⟩ = some (.int .i64 0) := (blk_cell BK117.out 0).trans rfl; have hcz64_1 : w62.cell? ⟨gb117, 1, none⟩ = some (.bool false) := (blk_cell BK117.out 1).trans rfl; have hcz64_2 : w62.cell? ⟨gb117, 2, none⟩ = some (.string (⟨#[]⟩ : ByteArray)) := (blk_cell BK117.out 2).trans rfl; have hcz64_3 : w62.cell? ⟨gb117, 3, none⟩ = some (.string (⟨#[]⟩ : ByteArray)) := (blk_cell BK117.out 3).trans rfl; have hcz64_4 : w62.cell? ⟨gb117, 4, none⟩ = some (.int .i64 0) := (blk_cell BK117.out 4).trans rfl; have hcz64_5 : w62.cell? ⟨gb117, 5, none⟩ = some (.int .i64 0) := (blk_cell BK117.out 5).trans rfl; have hfz64_0 := blk_frozen BK117.out 0; have hfz64_1 := blk_frozen BK117.out 1; have hfz64_2 := blk_frozen BK117.out 2; have hfz64_3 := blk_frozen BK117.out 3; have hfz64_4 := blk_frozen BK117.out 4; have hfz64_5 := blk_frozen BK117.out 5; have hcz65_0 : w62.cell? ⟨gb108, 0, none⟩ = some (.int .i64 ((rd_T46 l0 x9_1).f0)) := (blk_cell BK108.out 0).trans rfl; have hcz65_1 : w62.cell? ⟨gb108, 1, none⟩ = some (.bool ((rd_T46 l0 x9_1).f1)) := (blk_cell BK108.out 1).trans rfl; have hcz65_2 : w62.cell? ⟨gb108, 2, none⟩ = some (.string ((rd_T46 l0 x9_1).f2)) := (blk_cell BK108.out 2).trans rfl; have hcz65_3 : w62.cell? ⟨gb108, 3, none⟩ = some (.string ((rd_T46 l0 x9_1).f3)) := (blk_cell BK108.out 3).trans rfl; have hcz65_4 : w62.cell? ⟨gb108, 4, none⟩ = some (.int .i64 ((rd_T46 l0 x9_1).f4)) := (blk_cell BK108.out 4).trans rfl; have hcz65_5 : w62.cell? ⟨gb108, 5, none⟩ = some (.int .i64 ((rd_T46 l0 x9_1).f5)) := (blk_cell BK108.out 5).trans rfl; have hfz65_0 := blk_frozen BK108.out 0; have hfz65_1 := blk_frozen BK108.out 1; have hfz65_2 := blk_frozen BK108.out 2; have hfz65_3 := blk_frozen BK108.out 3; have hfz65_4 := blk_frozen BK108.out 4; have hfz65_5 := blk_frozen BK108.out 5))
                                          go_roundg k3
                                          case measure => have := HK1.out; have := HJ4.out; have := HK3.out; omega
                                          case rel => exact ⟨(wrap64 (x51_3 + 1)), (by first | rfl | (simp; done) | (simp [*]; done)), H', ⟨by have := HK1.out; have := HJ4.out; have := HK3.out; omega⟩, ⟨by (with_reducible repeat (first | refine blk_drewN ?_ _ | refine blk_drew ?_ | refine blk_alloc ?_ _)); refine blk_far ?_ NB108_117.out _; (with_reducible repeat (first | refine blk_drewN ?_ _ | refine blk_drew ?_ | refine blk_alloc ?_ _)); refine blk_far ?_ NB108_117.out _; (with_reducible repeat (first | refine blk_drewN ?_ _ | refine blk_drew ?_ | refine blk_alloc ?_ _)); refine blk_far ?_ NB108_117.out _; (with_reducible repeat (first | refine blk_drewN ?_ _ | refine blk_drew ?_ | refine blk_alloc ?_ _)); refine blk_far ?_ NB108_117.out _; (with_reducible repeat (first | refine blk_drewN ?_ _ | refine blk_drew ?_ | refine blk_alloc ?_ _)); refine blk_far ?_ NB108_117.out _; (with_reducible repeat (first | refine blk_drewN ?_ _ | refine blk_drew ?_ | refine blk_alloc ?_ _)); refine blk_far ?_ NB108_117.out _; (with_reducible repeat (first | refine blk_drewN ?_ _ | refine blk_drew ?_ | refine blk_alloc ?_ _)); exact BK108.out⟩, ⟨by repeat (first | (with_reducible first | exact HB.out | apply below_alloc | apply pw_below_drewN | apply below_drew1 | refine below_set ?_ GE108.out | refine below_set ?_ GE117.out) | exact HB.out)⟩⟩
                              · rw [if_neg c28] at H
                                exact absurd H (by simp)
                            · rw [if_neg c27] at H
                              exact absurd H (by simp)
                          · rw [if_neg c26] at H
                            have c26b0 : decide (x51_3 < (y112.length : Int)) = false := decide_eq_false c26
                            clear c26
                            have H' := Aside0.mk H
                            clear H
                            go_wp2
                            go_roundg k3
                            case measure => have := HK1.out; have := HJ4.out; have := HK3.out; omega
                            case rel => exact ⟨(wrap64 (x9_1 + 1)), (by first | rfl | (simp; done) | (simp [*]; done)), H', ⟨by have := HK1.out; have := HJ4.out; have := HK3.out; omega⟩, ⟨by repeat (first | (with_reducible first | exact HB.out | apply below_alloc | apply pw_below_drewN | apply below_drew1 | refine below_set ?_ GE108.out) | exact HB.out)⟩⟩
                    · rw [if_neg c24] at H
                      exact absurd H (by simp)
                  · rw [if_neg c23] at H
                    exact absurd H (by simp)
          · rw [if_neg c4] at H
            exact absurd H (by simp)
        · rw [if_neg c3] at H
          exact absurd H (by simp)
      · rw [if_neg c2] at H
        have c2b0 : decide (x9_1 < (l0.length : Int)) = false := decide_eq_false c2
        clear c2
        obtain rfl := Option.some.inj H
        go_wp2
        go_ret
        exact ⟨by first | rfl | (simp [errW_none, errW_some] <;> rfl) | (simp [*, errW_none, errW_some] <;> rfl), by repeat (first | (with_reducible first | exact HB.out | apply below_alloc | apply pw_below_drewN | apply below_drew1) | exact HB.out)⟩

/-! ### laws_toCall: function 35 -/
def laws_toCall.f (a0_0 : Int) (a0_1 : Bool) (a0_2 : ByteArray) (a0_3 : ByteArray) (a0_4 : Int) (a0_5 : Int) : Option (Int × Bool × ByteArray × ByteArray × Int × Int) := some (a0_0, a0_1, a0_2, a0_3, a0_4, a0_5)
set_option maxHeartbeats 8000000 in
set_option maxRecDepth 100000 in
theorem laws_toCall.calls (a0_0 : Int) (a0_1 : Bool) (a0_2 : ByteArray) (a0_3 : ByteArray) (a0_4 : Int) (a0_5 : Int) (r1 : Int) (r2 : Bool) (r3 : ByteArray) (r4 : ByteArray) (r5 : Int) (r6 : Int) (w : World) (h : laws_toCall.f a0_0 a0_1 a0_2 a0_3 a0_4 a0_5 = some (r1, r2, r3, r4, r5, r6)) :
    Calls Tryd.prog 35 #[.agg #[.int .i64 a0_0, .bool a0_1, .string a0_2, .string a0_3, .int .i64 a0_4, .int .i64 a0_5]] w fun e w' => e = .returned (.agg #[.int .i64 r1, .bool r2, .string r3, .string r4, .int .i64 r5, .int .i64 r6]) ∧ Below w.heap.size w w' := by
  have hu45 := Tryd.underlying45
  have hu46 := Tryd.underlying46
  have HB := Aside0.mk (Below.refl w.heap.size w)
  have H : (some (a0_0, a0_1, a0_2, a0_3, a0_4, a0_5)) = some (r1, r2, r3, r4, r5, r6) := h
  clear h
  simp only [Option.some.injEq, Prod.mk.injEq] at H
  obtain ⟨rfl, rfl, rfl, rfl, rfl, rfl⟩ := H
  go_enter Tryd.func35, Tryd.ntmps35
  go_wp2_with (first | ((with_reducible refine gate_dst (N := 1) rfl ?_); refine box_event ?hg (N := 1) ?hd (cs := #[.int .i64 a0_0, .bool a0_1, .string a0_2, .string a0_3, .int .i64 a0_4, .int .i64 a0_5]) (t := 45) ?hr ?_; (case hd => rfl); (case hg => rfl); (case hr => first | (go_simp; done) | (go_simp; rfl)); intro gb119 hg w2 hbox hb; have n0_ := Aside0.mk (below_step (by repeat (first | (with_reducible first | exact HB.out | apply below_alloc | apply pw_below_drewN | apply below_drew1) | exact HB.out)) hb); have n1_ := Aside0.mk (hbox); have n2_ := Aside0.mk ((by rw [hg]; exact (below_size (by repeat (first | (with_reducible first | exact HB.out | apply below_alloc | apply pw_below_drewN | apply below_drew1) | exact HB.out))) : w.heap.size ≤ gb119)); have n3_ := Aside0.mk ((by rw [hg]; exact (below_size (by repeat (first | (with_reducible first | exact HB.out | apply below_alloc | apply pw_below_drewN | apply below_drew1) | exact HB.out))) : w.heap.size ≤ gb119)); clear HB; have HB := n0_; have BK119 := n1_; have GW119 := n2_; have GE119 := n3_; clear n0_ n1_ n2_ n3_; clear hb hbox hg) | ((with_reducible refine gate_dst (N := 2) rfl ?_); refine box_event ?hg (N := 2) ?hd (cs := #[.int .i64 0, .bool false, .string (⟨#[]⟩ : ByteArray), .string (⟨#[]⟩ : ByteArray), .int .i64 0, .int .i64 0]) (t := 46) ?hr ?_; (case hd => rfl); (case hg => rfl); (case hr => first | (go_simp; done) | (go_simp; rfl)); intro gb120 hg w3 hbox hb; have n0_ := Aside0.mk (blk_below (g := gb119) (o := .cells #[.int .i64 a0_0, .bool a0_1, .string a0_2, .string a0_3, .int .i64 a0_4, .int .i64 a0_5] 45 (0, 0)) (by (with_reducible repeat (first | refine blk_drewN ?_ _ | refine blk_drew ?_ | refine blk_alloc ?_ _)); exact BK119.out) hb); have n1_ := Aside0.mk (below_step (by repeat (first | (with_reducible first | exact HB.out | apply below_alloc | apply pw_below_drewN | apply below_drew1 | refine below_set ?_ GE119.out) | exact HB.out)) hb); have n2_ := Aside0.mk (hbox); have n3_ := Aside0.mk ((by rw [hg]; exact (below_size (by repeat (first | (with_reducible first | exact HB.out | apply below_alloc | apply pw_below_drewN | apply below_drew1 | refine below_set ?_ GE119.out) | exact HB.out))) : w.heap.size ≤ gb120)); have n4_ := Aside0.mk ((by rw [hg]; exact (below_size (by repeat (first | (with_reducible first | exact HB.out | apply below_alloc | apply pw_below_drewN | apply below_drew1 | refine below_set ?_ GE119.out) | exact HB.out))) : w.heap.size ≤ gb120)); have n5_ := Aside0.mk ((by rw [hg]; exact Nat.ne_of_lt (blk_lt (g := gb119) (o := .cells #[.int .i64 a0_0, .bool a0_1, .string a0_2, .string a0_3, .int .i64 a0_4, .int .i64 a0_5] 45 (0, 0)) (by (with_reducible repeat (first | refine blk_drewN ?_ _ | refine blk_drew ?_ | refine blk_alloc ?_ _)); exact BK119.out)) : gb119 ≠ gb120)); have n6_ := Aside0.mk ((by rw [hg]; exact Nat.ne_of_gt (blk_lt (g := gb119) (o := .cells #[.int .i64 a0_0, .bool a0_1, .string a0_2, .string a0_3, .int .i64 a0_4, .int .i64 a0_5] 45 (0, 0)) (by (with_reducible repeat (first | refine blk_drewN ?_ _ | refine blk_drew ?_ | refine blk_alloc ?_ _)); exact BK119.out)) : gb120 ≠ gb119)); clear BK119; clear HB; have BK119 := n0_; have HB := n1_; have BK120 := n2_; have GW120 := n3_; have GE120 := n4_; have NB119_120 := n5_; have NB120_119 := n6_; clear n0_ n1_ n2_ n3_ n4_ n5_ n6_; clear hb hbox hg) | ((with_reducible refine gate_dst (N := 3) rfl ?_); refine box_event ?hg (N := 3) ?hd (cs := #[.int .i64 0, .bool false, .string (⟨#[]⟩ : ByteArray), .string (⟨#[]⟩ : ByteArray), .int .i64 0, .int .i64 0]) (t := 46) ?hr ?_; (case hd => rfl); (case hg => rfl); (case hr => first | (go_simp; done) | (go_simp; rfl)); intro gb121 hg w4 hbox hb; have n0_ := Aside0.mk (blk_below (g := gb119) (o := .cells #[.int .i64 a0_0, .bool a0_1, .string a0_2, .string a0_3, .int .i64 a0_4, .int .i64 a0_5] 45 (0, 0)) (by (with_reducible repeat (first | refine blk_drewN ?_ _ | refine blk_drew ?_ | refine blk_alloc ?_ _)); exact BK119.out) hb); have n1_ := Aside0.mk (blk_below (g := gb120) (o := .cells #[.int .i64 0, .bool false, .string (⟨#[]⟩ : ByteArray), .string (⟨#[]⟩ : ByteArray), .int .i64 0, .int .i64 0] 46 (0, 0)) (by (with_reducible repeat (first | refine blk_drewN ?_ _ | refine blk_drew ?_ | refine blk_alloc ?_ _)); exact BK120.out) hb); have n2_ := Aside0.mk (below_step (by repeat (first | (with_reducible first | exact HB.out | apply below_alloc | apply pw_below_drewN | apply below_drew1 | refine below_set ?_ GE119.out | refine below_set ?_ GE120.out) | exact HB.out)) hb); have n3_ := Aside0.mk (hbox); have n4_ := Aside0.mk ((by rw [hg]; exact (below_size (by repeat (first | (with_reducible first | exact HB.out | apply below_alloc | apply pw_below_drewN | apply below_drew1 | refine below_set ?_ GE119.out | refine below_set ?_ GE120.out) | exact HB.out))) : w.heap.size ≤ gb121)); have n5_ := Aside0.mk ((by rw [hg]; exact (below_size (by repeat (first | (with_reducible first | exact HB.out | apply below_alloc | apply pw_below_drewN | apply below_drew1 | refine below_set ?_ GE119.out | refine below_set ?_ GE120.out) | exact HB.out))) : w.heap.size ≤ gb121)); have n6_ := Aside0.mk ((by rw [hg]; exact Nat.ne_of_lt (blk_lt (g := gb119) (o := .cells #[.int .i64 a0_0, .bool a0_1, .string a0_2, .string a0_3, .int .i64 a0_4, .int .i64 a0_5] 45 (0, 0)) (by (with_reducible repeat (first | refine blk_drewN ?_ _ | refine blk_drew ?_ | refine blk_alloc ?_ _)); exact BK119.out)) : gb119 ≠ gb121)); have n7_ := Aside0.mk ((by rw [hg]; exact Nat.ne_of_gt (blk_lt (g := gb119) (o := .cells #[.int .i64 a0_0, .bool a0_1, .string a0_2, .string a0_3, .int .i64 a0_4, .int .i64 a0_5] 45 (0, 0)) (by (with_reducible repeat (first | refine blk_drewN ?_ _ | refine blk_drew ?_ | refine blk_alloc ?_ _)); exact BK119.out)) : gb121 ≠ gb119)); have n8_ := Aside0.mk ((by rw [hg]; exact Nat.ne_of_lt (blk_lt (g := gb120) (o := .cells #[.int .i64 0, .bool false, .string (⟨#[]⟩ : ByteArray), .string (⟨#[]⟩ : ByteArray), .int .i64 0, .int .i64 0] 46 (0, 0)) (by (with_reducible repeat (first | refine blk_drewN ?_ _ | refine blk_drew ?_ | refine blk_alloc ?_ _)); exact BK120.out)) : gb120 ≠ gb121)); have n9_ := Aside0.mk ((by rw [hg]; exact Nat.ne_of_gt (blk_lt (g := gb120) (o := .cells #[.int .i64 0, .bool false, .string (⟨#[]⟩ : ByteArray), .string (⟨#[]⟩ : ByteArray), .int .i64 0, .int .i64 0] 46 (0, 0)) (by (with_reducible repeat (first | refine blk_drewN ?_ _ | refine blk_drew ?_ | refine blk_alloc ?_ _)); exact BK120.out)) : gb121 ≠ gb120)); clear BK119; clear BK120; clear HB; have BK119 := n0_; have BK120 := n1_; have HB := n2_; have BK121 := n3_; have GW121 := n4_; have GE121 := n5_; have NB119_121 := n6_; have NB121_119 := n7_; have NB120_121 := n8_; have NB121_120 := n9_; clear n0_ n1_ n2_ n3_ n4_ n5_ n6_ n7_ n8_ n9_; clear hb hbox hg; have hnb5 := NB119_120.out; have hnc5 := NB120_119.out; have hnb6 := NB119_121.out; have hnc6 := NB121_119.out; have hcz7_0 : w4.cell? ⟨gb119, 0, none⟩ = some (.int .i64 a0_0) := (blk_cell BK119.out 0).trans rfl; have hcz7_1 : w4.cell? ⟨gb119, 1, none⟩ = some (.bool a0_1) := (blk_cell BK119.out 1).trans rfl; have hcz7_2 : w4.cell? ⟨gb119, 2, none⟩ = some (.string a0_2) := (blk_cell BK119.out 2).trans rfl; have hcz7_3 : w4.cell? ⟨gb119, 3, none⟩ = some (.string a0_3) := (blk_cell BK119.out 3).trans rfl; have hcz7_4 : w4.cell? ⟨gb119, 4, none⟩ = some (.int .i64 a0_4) := (blk_cell BK119.out 4).trans rfl; have hcz7_5 : w4.cell? ⟨gb119, 5, none⟩ = some (.int .i64 a0_5) := (blk_cell BK119.out 5).trans rfl; have hfz7_0 := blk_frozen BK119.out 0; have hfz7_1 := blk_frozen BK119.out 1; have hfz7_2 := blk_frozen BK119.out 2; have hfz7_3 := blk_frozen BK119.out 3; have hfz7_4 := blk_frozen BK119.out 4; have hfz7_5 := blk_frozen BK119.out 5; have hnb8 := NB121_120.out; have hnc8 := NB120_121.out; have hcz9_0 : w4.cell? ⟨gb121, 0, none⟩ = some (.int .i64 0) := (blk_cell BK121.out 0).trans rfl; have hcz9_1 : w4.cell? ⟨gb121, 1, none⟩ = some (.bool false) := (blk_cell BK121.out 1).trans rfl; have hcz9_2 : w4.cell? ⟨gb121, 2, none⟩ = some (.string (⟨#[]⟩ : ByteArray)) := (blk_cell BK121.out 2).trans rfl; have hcz9_3 : w4.cell? ⟨gb121, 3, none⟩ = some (.string (⟨#[]⟩ : ByteArray)) := (blk_cell BK121.out 3).trans rfl; have hcz9_4 : w4.cell? ⟨gb121, 4, none⟩ = some (.int .i64 0) := (blk_cell BK121.out 4).trans rfl; have hcz9_5 : w4.cell? ⟨gb121, 5, none⟩ = some (.int .i64 0) := (blk_cell BK121.out 5).trans rfl; have hfz9_0 := blk_frozen BK121.out 0; have hfz9_1 := blk_frozen BK121.out 1; have hfz9_2 := blk_frozen BK121.out 2; have hfz9_3 := blk_frozen BK121.out 3; have hfz9_4 := blk_frozen BK121.out 4; have hfz9_5 := blk_frozen BK121.out 5; have hcz10_0 : w4.cell? ⟨gb120, 0, none⟩ = some (.int .i64 0) := (blk_cell BK120.out 0).trans rfl; have hcz10_1 : w4.cell? ⟨gb120, 1, none⟩ = some (.bool false) := (blk_cell BK120.out 1).trans rfl; have hcz10_2 : w4.cell? ⟨gb120, 2, none⟩ = some (.string (⟨#[]⟩ : ByteArray)) := (blk_cell BK120.out 2).trans rfl; have hcz10_3 : w4.cell? ⟨gb120, 3, none⟩ = some (.string (⟨#[]⟩ : ByteArray)) := (blk_cell BK120.out 3).trans rfl; have hcz10_4 : w4.cell? ⟨gb120, 4, none⟩ = some (.int .i64 0) := (blk_cell BK120.out 4).trans rfl; have hcz10_5 : w4.cell? ⟨gb120, 5, none⟩ = some (.int .i64 0) := (blk_cell BK120.out 5).trans rfl; have hfz10_0 := blk_frozen BK120.out 0; have hfz10_1 := blk_frozen BK120.out 1; have hfz10_2 := blk_frozen BK120.out 2; have hfz10_3 := blk_frozen BK120.out 3; have hfz10_4 := blk_frozen BK120.out 4; have hfz10_5 := blk_frozen BK120.out 5))
  refine bodyPost_ret (results_cell_row rfl _ _ gb120 46 #[.int .i64 a0_0, .bool a0_1, .string a0_2, .string a0_3, .int .i64 a0_4, .int .i64 a0_5] (0, 0) _ rfl (by (with_reducible repeat (first | refine blk_drewN ?_ _ | refine blk_drew ?_ | refine blk_alloc ?_ _)); refine blk_put (cs := #[.int .i64 a0_0, .bool a0_1, .string a0_2, .string a0_3, .int .i64 a0_4, .int .i64 0]) ?_ 5 _ rfl; (with_reducible repeat (first | refine blk_drewN ?_ _ | refine blk_drew ?_ | refine blk_alloc ?_ _)); refine blk_put (cs := #[.int .i64 a0_0, .bool a0_1, .string a0_2, .string a0_3, .int .i64 0, .int .i64 0]) ?_ 4 _ rfl; (with_reducible repeat (first | refine blk_drewN ?_ _ | refine blk_drew ?_ | refine blk_alloc ?_ _)); refine blk_put (cs := #[.int .i64 a0_0, .bool a0_1, .string a0_2, .string (⟨#[]⟩ : ByteArray), .int .i64 0, .int .i64 0]) ?_ 3 _ rfl; (with_reducible repeat (first | refine blk_drewN ?_ _ | refine blk_drew ?_ | refine blk_alloc ?_ _)); refine blk_put (cs := #[.int .i64 a0_0, .bool a0_1, .string (⟨#[]⟩ : ByteArray), .string (⟨#[]⟩ : ByteArray), .int .i64 0, .int .i64 0]) ?_ 2 _ rfl; (with_reducible repeat (first | refine blk_drewN ?_ _ | refine blk_drew ?_ | refine blk_alloc ?_ _)); refine blk_put (cs := #[.int .i64 a0_0, .bool false, .string (⟨#[]⟩ : ByteArray), .string (⟨#[]⟩ : ByteArray), .int .i64 0, .int .i64 0]) ?_ 1 _ rfl; (with_reducible repeat (first | refine blk_drewN ?_ _ | refine blk_drew ?_ | refine blk_alloc ?_ _)); refine blk_put (cs := #[.int .i64 0, .bool false, .string (⟨#[]⟩ : ByteArray), .string (⟨#[]⟩ : ByteArray), .int .i64 0, .int .i64 0]) ?_ 0 _ rfl; (with_reducible repeat (first | refine blk_drewN ?_ _ | refine blk_drew ?_ | refine blk_alloc ?_ _)); refine blk_far ?_ NB120_121.out _; (with_reducible repeat (first | refine blk_drewN ?_ _ | refine blk_drew ?_ | refine blk_alloc ?_ _)); refine blk_far ?_ NB120_121.out _; (with_reducible repeat (first | refine blk_drewN ?_ _ | refine blk_drew ?_ | refine blk_alloc ?_ _)); refine blk_far ?_ NB120_121.out _; (with_reducible repeat (first | refine blk_drewN ?_ _ | refine blk_drew ?_ | refine blk_alloc ?_ _)); refine blk_far ?_ NB120_121.out _; (with_reducible repeat (first | refine blk_drewN ?_ _ | refine blk_drew ?_ | refine blk_alloc ?_ _)); refine blk_far ?_ NB120_121.out _; (with_reducible repeat (first | refine blk_drewN ?_ _ | refine blk_drew ?_ | refine blk_alloc ?_ _)); refine blk_far ?_ NB120_121.out _; (with_reducible repeat (first | refine blk_drewN ?_ _ | refine blk_drew ?_ | refine blk_alloc ?_ _)); exact BK120.out) Tryd.underlying46 rfl (by kernel_rfl)) rfl ?_
  exact ⟨by first | rfl | (simp [errW_none, errW_some] <;> rfl) | (simp [*, errW_none, errW_some] <;> rfl), by repeat (first | (with_reducible first | exact HB.out | apply below_alloc | apply pw_below_drewN | apply below_drew1 | refine below_set ?_ GE119.out | refine below_set ?_ GE120.out | refine below_set ?_ GE121.out) | exact HB.out)⟩

end Go.Proofs.YtienplkbbahfjaaDoor.PFnExactGoodCalls
