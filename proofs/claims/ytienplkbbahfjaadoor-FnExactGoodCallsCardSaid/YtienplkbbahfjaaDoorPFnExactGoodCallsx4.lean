-- Written by a program of this session (wip/mk.py) over the kit's print. Not trusted: Lean checks it.
import Derived.Test.YtienplkbbahfjaaDoorPFnExactGoodCallsx0
import Derived.Test.YtienplkbbahfjaaDoorPFnExactGoodCallsx3
namespace Go.Proofs.YtienplkbbahfjaaDoor.PFnExactGoodCalls
open Go.RowKit Go.Proofs.YtienplkbbahfjaaDoorW.PrintWords Go.Proofs.YtienplkbbahfjaaDoorW.PrintLast Go.Proofs.YtienplkbbahfjaaDoorW.PrintMore
attribute [local go_sem] max2_int min2_int max_two min_two max_three min_three max_four min_four   -- for this text's walks alone
open Go.Proofs.YtienplkbbahfjaaDoor.MapW
set_option linter.unusedVariables false
set_option linter.unusedSimpArgs false

/-! ### impl_areCalls: function 36 -/
mutual
def impl_areCalls.l0 : Nat → List (S46) → List (S46) → Int → Int → List (Int × Bool) → Option (Bool)
  | 0, _, _, _, _, _ => none
  | k + 1, x0, x9, x10, x11, x135000 => if x11 < x10 then (if 0 ≤ x11 then (if x11 < (x9.length : Int) then ((impl_in.f ((rd_T46 x9 x11).f0) 0 9).bind fun t137 => (if t137 = true then ((impl_isKey.f ((rd_T46 x9 x11).f2)).bind fun t138 => (if t138 = true then ((impl_isValue.f k ((rd_T46 x9 x11).f3)).bind fun t139 => (if t139 = true then (if ((rd_T46 x9 x11).f4) < 0 then (impl_areCalls.j1 k x0 x11 x9 x10 x11 true x135000 ((rd_T46 x9 x11).f0) ((rd_T46 x9 x11).f1) ((rd_T46 x9 x11).f2) ((rd_T46 x9 x11).f3) ((rd_T46 x9 x11).f4) ((rd_T46 x9 x11).f5)) else (if ((rd_T46 x9 x11).f5) ≤ ((rd_T46 x9 x11).f4) then (impl_areCalls.j1 k x0 x11 x9 x10 x11 true x135000 ((rd_T46 x9 x11).f0) ((rd_T46 x9 x11).f1) ((rd_T46 x9 x11).f2) ((rd_T46 x9 x11).f3) ((rd_T46 x9 x11).f4) ((rd_T46 x9 x11).f5)) else (if ((rd_T46 x9 x11).f5) ≥ 1000000 then (impl_areCalls.j1 k x0 x11 x9 x10 x11 true x135000 ((rd_T46 x9 x11).f0) ((rd_T46 x9 x11).f1) ((rd_T46 x9 x11).f2) ((rd_T46 x9 x11).f3) ((rd_T46 x9 x11).f4) ((rd_T46 x9 x11).f5)) else (if (mgetD x135000 ((rd_T46 x9 x11).f4) false) = true then (impl_areCalls.j1 k x0 x11 x9 x10 x11 true x135000 ((rd_T46 x9 x11).f0) ((rd_T46 x9 x11).f1) ((rd_T46 x9 x11).f2) ((rd_T46 x9 x11).f3) ((rd_T46 x9 x11).f4) ((rd_T46 x9 x11).f5)) else (impl_areCalls.j1 k x0 x11 x9 x10 x11 (mgetD x135000 ((rd_T46 x9 x11).f5) false) x135000 ((rd_T46 x9 x11).f0) ((rd_T46 x9 x11).f1) ((rd_T46 x9 x11).f2) ((rd_T46 x9 x11).f3) ((rd_T46 x9 x11).f4) ((rd_T46 x9 x11).f5)))))) else (impl_areCalls.j1 k x0 x11 x9 x10 x11 true x135000 ((rd_T46 x9 x11).f0) ((rd_T46 x9 x11).f1) ((rd_T46 x9 x11).f2) ((rd_T46 x9 x11).f3) ((rd_T46 x9 x11).f4) ((rd_T46 x9 x11).f5)))) else (impl_areCalls.j1 k x0 x11 x9 x10 x11 true x135000 ((rd_T46 x9 x11).f0) ((rd_T46 x9 x11).f1) ((rd_T46 x9 x11).f2) ((rd_T46 x9 x11).f3) ((rd_T46 x9 x11).f4) ((rd_T46 x9 x11).f5)))) else (impl_areCalls.j1 k x0 x11 x9 x10 x11 true x135000 ((rd_T46 x9 x11).f0) ((rd_T46 x9 x11).f1) ((rd_T46 x9 x11).f2) ((rd_T46 x9 x11).f3) ((rd_T46 x9 x11).f4) ((rd_T46 x9 x11).f5)))) else (none)) else (none)) else (some (decide ((x0.length : Int) ≤ 7)))
def impl_areCalls.j1 : Nat → List (S46) → Int → List (S46) → Int → Int → Bool → List (Int × Bool) → Int → Bool → ByteArray → ByteArray → Int → Int → Option (Bool)
  | 0, _, _, _, _, _, _, _, _, _, _, _, _, _ => none
  | k + 1, x0, x4, x9, x10, x11, x60, x135000, x137000, x137001, x137002, x137003, x137004, x137005 => if x60 = true then (some false) else (if 0 ≤ x4 then (if x4 ≤ (x0.length : Int) then ((some (x0.take (x4 : Int).toNat : List (S46))).bind fun y140 => (impl_areCalls.l1 k x0 x9 x10 x11 y140 (y140.length : Int) 0 (mput (mput x135000 x137004 true) x137005 true) x137000 x137001 x137002 x137003 x137004 x137005)) else (none)) else (none))
def impl_areCalls.l1 : Nat → List (S46) → List (S46) → Int → Int → List (S46) → Int → Int → List (Int × Bool) → Int → Bool → ByteArray → ByteArray → Int → Int → Option (Bool)
  | 0, _, _, _, _, _, _, _, _, _, _, _, _, _, _ => none
  | k + 1, x0, x9, x10, x11, x69, x70, x71, x135000, x137000, x137001, x137002, x137003, x137004, x137005 => if x71 < x70 then (if 0 ≤ x71 then (if x71 < (x69.length : Int) then (if x137000 = ((rd_T46 x69 x71).f0) then (if x137005 > ((rd_T46 x69 x71).f4) then (if ((rd_T46 x69 x71).f5) > x137004 then (some false) else (impl_areCalls.l1 k x0 x9 x10 x11 x69 x70 (wrap64 (x71 + 1)) x135000 x137000 x137001 x137002 x137003 x137004 x137005)) else (impl_areCalls.l1 k x0 x9 x10 x11 x69 x70 (wrap64 (x71 + 1)) x135000 x137000 x137001 x137002 x137003 x137004 x137005)) else (impl_areCalls.l1 k x0 x9 x10 x11 x69 x70 (wrap64 (x71 + 1)) x135000 x137000 x137001 x137002 x137003 x137004 x137005)) else (none)) else (none)) else (impl_areCalls.l0 k x0 x9 x10 (wrap64 (x11 + 1)) x135000)
end
def impl_areCalls.f (k : Nat) (l0 : List (S46)) : Option (Bool) := impl_areCalls.l0 k l0 l0 (l0.length : Int) 0 ([] : List (Int × Bool))
theorem impl_areCalls.mono_l : ∀ k, (∀ y0 y1 y2 y3 y4, LeO (impl_areCalls.l0 k y0 y1 y2 y3 y4) (impl_areCalls.l0 (k + 1) y0 y1 y2 y3 y4)) ∧ (∀ y0 y1 y2 y3 y4 y5 y6 y7 y8 y9 y10 y11 y12, LeO (impl_areCalls.j1 k y0 y1 y2 y3 y4 y5 y6 y7 y8 y9 y10 y11 y12) (impl_areCalls.j1 (k + 1) y0 y1 y2 y3 y4 y5 y6 y7 y8 y9 y10 y11 y12)) ∧ (∀ y0 y1 y2 y3 y4 y5 y6 y7 y8 y9 y10 y11 y12 y13, LeO (impl_areCalls.l1 k y0 y1 y2 y3 y4 y5 y6 y7 y8 y9 y10 y11 y12 y13) (impl_areCalls.l1 (k + 1) y0 y1 y2 y3 y4 y5 y6 y7 y8 y9 y10 y11 y12 y13))
  | 0 => ⟨fun _ _ _ _ _ r h => by simp [impl_areCalls.l0] at h, fun _ _ _ _ _ _ _ _ _ _ _ _ _ r h => by simp [impl_areCalls.j1] at h, fun _ _ _ _ _ _ _ _ _ _ _ _ _ _ r h => by simp [impl_areCalls.l1] at h⟩
  | k + 1 => by
    obtain ⟨ih0, ih1, ih2⟩ := impl_areCalls.mono_l k
    refine ⟨?_, ?_, ?_⟩
    · intro y0 y1 y2 y3 y4
      unfold impl_areCalls.l0
      repeat' first
      | (with_reducible exact ih0 _ _ _ _ _)
      | (with_reducible exact ih1 _ _ _ _ _ _ _ _ _ _ _ _ _)
      | (with_reducible exact ih2 _ _ _ _ _ _ _ _ _ _ _ _ _ _)
      | (with_reducible exact impl_isValue.mono _ _)
      | (with_reducible exact LeO.refl _)
      | (with_reducible exact LeO.none _)
      | (with_reducible refine LeO.ite ?_ ?_)
      | (with_reducible refine LeO.bind ?_ (fun _ => ?_))
      | exact ih0 _ _ _ _ _
      | exact ih1 _ _ _ _ _ _ _ _ _ _ _ _ _
      | exact ih2 _ _ _ _ _ _ _ _ _ _ _ _ _ _
      | exact impl_isValue.mono _ _
      | exact LeO.none _
      | refine LeO.ite ?_ ?_
      | refine LeO.bind ?_ (fun _ => ?_)
    · intro y0 y1 y2 y3 y4 y5 y6 y7 y8 y9 y10 y11 y12
      unfold impl_areCalls.j1
      repeat' first
      | (with_reducible exact ih0 _ _ _ _ _)
      | (with_reducible exact ih1 _ _ _ _ _ _ _ _ _ _ _ _ _)
      | (with_reducible exact ih2 _ _ _ _ _ _ _ _ _ _ _ _ _ _)
      | (with_reducible exact impl_isValue.mono _ _)
      | (with_reducible exact LeO.refl _)
      | (with_reducible exact LeO.none _)
      | (with_reducible refine LeO.ite ?_ ?_)
      | (with_reducible refine LeO.bind ?_ (fun _ => ?_))
      | exact ih0 _ _ _ _ _
      | exact ih1 _ _ _ _ _ _ _ _ _ _ _ _ _
      | exact ih2 _ _ _ _ _ _ _ _ _ _ _ _ _ _
      | exact impl_isValue.mono _ _
      | exact LeO.none _
      | refine LeO.ite ?_ ?_
      | refine LeO.bind ?_ (fun _ => ?_)
    · intro y0 y1 y2 y3 y4 y5 y6 y7 y8 y9 y10 y11 y12 y13
      unfold impl_areCalls.l1
      repeat' first
      | (with_reducible exact ih0 _ _ _ _ _)
      | (with_reducible exact ih1 _ _ _ _ _ _ _ _ _ _ _ _ _)
      | (with_reducible exact ih2 _ _ _ _ _ _ _ _ _ _ _ _ _ _)
      | (with_reducible exact impl_isValue.mono _ _)
      | (with_reducible exact LeO.refl _)
      | (with_reducible exact LeO.none _)
      | (with_reducible refine LeO.ite ?_ ?_)
      | (with_reducible refine LeO.bind ?_ (fun _ => ?_))
      | exact ih0 _ _ _ _ _
      | exact ih1 _ _ _ _ _ _ _ _ _ _ _ _ _
      | exact ih2 _ _ _ _ _ _ _ _ _ _ _ _ _ _
      | exact impl_isValue.mono _ _
      | exact LeO.none _
      | refine LeO.ite ?_ ?_
      | refine LeO.bind ?_ (fun _ => ?_)
theorem impl_areCalls.mono : ∀ a0 k, LeO (impl_areCalls.f k a0) (impl_areCalls.f (k + 1) a0) := by
  intro a0 k
  obtain ⟨ih0, ih1, ih2⟩ := impl_areCalls.mono_l k
  unfold impl_areCalls.f
  repeat' first
      | (with_reducible exact ih0 _ _ _ _ _)
      | (with_reducible exact ih1 _ _ _ _ _ _ _ _ _ _ _ _ _)
      | (with_reducible exact ih2 _ _ _ _ _ _ _ _ _ _ _ _ _ _)
      | (with_reducible exact impl_isValue.mono _ _)
      | (with_reducible exact LeO.refl _)
      | (with_reducible exact LeO.none _)
      | (with_reducible refine LeO.ite ?_ ?_)
      | (with_reducible refine LeO.bind ?_ (fun _ => ?_))
      | exact ih0 _ _ _ _ _
      | exact ih1 _ _ _ _ _ _ _ _ _ _ _ _ _
      | exact ih2 _ _ _ _ _ _ _ _ _ _ _ _ _ _
      | exact impl_isValue.mono _ _
      | exact LeO.none _
      | refine LeO.ite ?_ ?_
      | refine LeO.bind ?_ (fun _ => ?_)
set_option maxHeartbeats 8000000 in
set_option maxRecDepth 100000 in
theorem impl_areCalls.calls (k : Nat) (A0 : Option Addr) (c0 : Nat) (l0 : List (S46)) (r : Bool) (w : World) (hr0 : Kd.C k46 w A0 l0.length l0) (hc0 : l0.length ≤ c0) (h : impl_areCalls.f k l0 = some r) :
    Calls Tryd.prog 36 #[.slice A0 l0.length c0] w fun e w' => e = .returned (.bool r) ∧ Below w.heap.size w w' := by
  have hu46 := Tryd.underlying46
  have HR0 := Aside0.mk hr0
  have HC0 := Aside0.mk hc0
  clear hr0 hc0
  have HB := Aside0.mk (Below.refl w.heap.size w)
  have H : (impl_areCalls.l0 k l0 l0 (l0.length : Int) 0 ([] : List (Int × Bool))) = some r := h
  clear h
  have H' := Aside0.mk H
  clear H
  go_enter Tryd.func36, Tryd.ntmps36
  go_wp2_with (first | ((with_reducible refine gate_dst (N := 8) rfl ?_); (try (refine gate_guard (by rfl) ?_; dsimp only)); refine map_event (Value.int .i64) Value.bool ?hg (N := 8) ?hd 65 ?ho ?_; (case hd => rfl); (case hg => rfl); (case ho => rfl); intro gb134 hg w2 hbox hb; have n0_ := Aside0.mk (below_step (by repeat (first | (with_reducible first | exact HB.out | apply below_alloc | apply pw_below_drewN | apply below_drew1) | exact HB.out)) hb); have n1_ := Aside0.mk (hbox); have n2_ := Aside0.mk ((by rw [hg]; exact (below_size (by repeat (first | (with_reducible first | exact HB.out | apply below_alloc | apply pw_below_drewN | apply below_drew1) | exact HB.out))) : w.heap.size ≤ gb134)); have n3_ := Aside0.mk ((by rw [hg]; exact (below_size (by repeat (first | (with_reducible first | exact HB.out | apply below_alloc | apply pw_below_drewN | apply below_drew1) | exact HB.out))) : w.heap.size ≤ gb134)); clear HB; have HB := n0_; have BK134 := n1_; have GW134 := n2_; have GE134 := n3_; clear n0_ n1_ n2_ n3_; clear hb hbox hg))
  go_loopg [11] k (fun kq v11 w' => ∃ (x11_1 : Int) (x135000_1 : List (Int × Bool)), v11 = .int .i64 x11_1 ∧ Aside0 (impl_areCalls.l0 kq l0 l0 (l0.length : Int) x11_1 x135000_1 = some r) ∧ Aside0 (kq ≤ k) ∧ Aside0 (w'.heap[gb134]? = some (mapObj (Value.int .i64) Value.bool x135000_1)) ∧ Aside0 (Below w.heap.size w w'))
  case atStart => exact ⟨(0), (([] : List (Int × Bool))), (by first | rfl | (simp; done) | (simp [*]; done)), H', ⟨Nat.le_refl _⟩, ⟨by (with_reducible repeat (first | refine blk_drewN ?_ _ | refine blk_drew ?_ | refine blk_alloc ?_ _)); exact BK134.out⟩, ⟨by repeat (first | (with_reducible first | exact HB.out | apply below_alloc | apply pw_below_drewN | apply below_drew1 | refine below_set ?_ GE134.out) | exact HB.out)⟩⟩
  case round =>
    clear H'
    try clear p2
    obtain ⟨x11_1, x135000_1, rfl, HA, HK1, BK134, HB⟩ := hrel
    cases gk with
    | zero => exact absurd HA.out (by simp [impl_areCalls.l0])
    | succ k1 =>
      have H := HA.out
      clear HA
      simp only [impl_areCalls.l0] at H
      by_cases c3 : x11_1 < (l0.length : Int)
      · rw [if_pos c3] at H
        have c3b0 : decide (x11_1 < (l0.length : Int)) = true := decide_eq_true c3
        clear c3
        by_cases c4 : 0 ≤ x11_1
        · rw [if_pos c4] at H
          have c4b0 : decide (0 ≤ x11_1) = true := decide_eq_true c4
          clear c4
          by_cases c5 : x11_1 < (l0.length : Int)
          · rw [if_pos c5] at H
            have c5b0 : decide (x11_1 < (l0.length : Int)) = true := decide_eq_true c5
            clear c5
            have HC6 := Aside0.mk H
            clear H
            have p135 : 0 ≤ (x11_1 : Int) := of_decide_eq_true (by first | (with_reducible assumption) | assumption)
            have q135 : x11_1 < (l0.length : Int) := of_decide_eq_true (by first | (with_reducible assumption) | assumption)
            obtain ⟨ad135, e135, hx135_0, hx135_1, hx135_2, hx135_3, hx135_4, hx135_5⟩ := at_T46 HR0.out x11_1 p135 q135
            cases e135
            replace hx135_0 := (HB.out.cell (World.block_lt_of_cell? w _ hx135_0)).trans hx135_0
            replace hx135_1 := (HB.out.cell (World.block_lt_of_cell? w _ hx135_1)).trans hx135_1
            replace hx135_2 := (HB.out.cell (World.block_lt_of_cell? w _ hx135_2)).trans hx135_2
            replace hx135_3 := (HB.out.cell (World.block_lt_of_cell? w _ hx135_3)).trans hx135_3
            replace hx135_4 := (HB.out.cell (World.block_lt_of_cell? w _ hx135_4)).trans hx135_4
            replace hx135_5 := (HB.out.cell (World.block_lt_of_cell? w _ hx135_5)).trans hx135_5
            replace p135 := eq_true p135
            replace q135 := eq_true q135
            go_upto_region 5 with (first | ((with_reducible refine gate_dst (N := 5) rfl ?_); (try (refine gate_guard (by rfl) ?_; dsimp only)); refine box_event ?hg (N := 5) ?hd (cs := #[.int .i64 0, .bool false, .string (⟨#[]⟩ : ByteArray), .string (⟨#[]⟩ : ByteArray), .int .i64 0, .int .i64 0]) (t := 46) ?hr ?_; (case hd => rfl); (case hg => rfl); (case hr => first | (go_simp; done) | (go_simp; rfl)); intro gb136 hg w7 hbox hb; have n0_ := Aside0.mk (blk_below (g := gb134) (o := mapObj (Value.int .i64) Value.bool x135000_1) (by (with_reducible repeat (first | refine blk_drewN ?_ _ | refine blk_drew ?_ | refine blk_alloc ?_ _)); exact BK134.out) hb); have n1_ := Aside0.mk (below_step (by repeat (first | (with_reducible first | exact HB.out | apply below_alloc | apply pw_below_drewN | apply below_drew1 | refine below_set ?_ GE134.out) | exact HB.out)) hb); have n2_ := Aside0.mk (hbox); have n3_ := Aside0.mk ((by rw [hg]; exact (below_size (by repeat (first | (with_reducible first | exact HB.out | apply below_alloc | apply pw_below_drewN | apply below_drew1 | refine below_set ?_ GE134.out) | exact HB.out))) : w.heap.size ≤ gb136)); have n4_ := Aside0.mk ((by rw [hg]; exact (below_size (by repeat (first | (with_reducible first | exact HB.out | apply below_alloc | apply pw_below_drewN | apply below_drew1 | refine below_set ?_ GE134.out) | exact HB.out))) : w.heap.size ≤ gb136)); have n5_ := Aside0.mk ((by rw [hg]; exact Nat.ne_of_lt (blk_lt (g := gb134) (o := mapObj (Value.int .i64) Value.bool x135000_1) (by (with_reducible repeat (first | refine blk_drewN ?_ _ | refine blk_drew ?_ | refine blk_alloc ?_ _)); exact BK134.out)) : gb134 ≠ gb136)); have n6_ := Aside0.mk ((by rw [hg]; exact Nat.ne_of_gt (blk_lt (g := gb134) (o := mapObj (Value.int .i64) Value.bool x135000_1) (by (with_reducible repeat (first | refine blk_drewN ?_ _ | refine blk_drew ?_ | refine blk_alloc ?_ _)); exact BK134.out)) : gb136 ≠ gb134)); clear BK134; clear HB; have BK134 := n0_; have HB := n1_; have BK136 := n2_; have GW136 := n3_; have GE136 := n4_; have NB134_136 := n5_; have NB136_134 := n6_; clear n0_ n1_ n2_ n3_ n4_ n5_ n6_; clear hb hbox hg; have hnb8 := NB136_134.out; have hnc8 := NB134_136.out; have hcz9_0 : w7.cell? ⟨gb136, 0, none⟩ = some (.int .i64 0) := (blk_cell BK136.out 0).trans rfl; have hcz9_1 : w7.cell? ⟨gb136, 1, none⟩ = some (.bool false) := (blk_cell BK136.out 1).trans rfl; have hcz9_2 : w7.cell? ⟨gb136, 2, none⟩ = some (.string (⟨#[]⟩ : ByteArray)) := (blk_cell BK136.out 2).trans rfl; have hcz9_3 : w7.cell? ⟨gb136, 3, none⟩ = some (.string (⟨#[]⟩ : ByteArray)) := (blk_cell BK136.out 3).trans rfl; have hcz9_4 : w7.cell? ⟨gb136, 4, none⟩ = some (.int .i64 0) := (blk_cell BK136.out 4).trans rfl; have hcz9_5 : w7.cell? ⟨gb136, 5, none⟩ = some (.int .i64 0) := (blk_cell BK136.out 5).trans rfl; have hfz9_0 := blk_frozen BK136.out 0; have hfz9_1 := blk_frozen BK136.out 1; have hfz9_2 := blk_frozen BK136.out 2; have hfz9_3 := blk_frozen BK136.out 3; have hfz9_4 := blk_frozen BK136.out 4; have hfz9_5 := blk_frozen BK136.out 5))
            (try simp only [Act.put, List.setIfInBounds_toArray, List.set_cons_zero, List.set_cons_succ])
            go_cut [60] (fun v60 wc => ∃ (kq : Nat) (x60_5 : Bool), v60 = .bool x60_5 ∧ Aside0 (impl_areCalls.j1 kq l0 x11_1 l0 (l0.length : Int) x11_1 x60_5 x135000_1 ((rd_T46 l0 x11_1).f0) ((rd_T46 l0 x11_1).f1) ((rd_T46 l0 x11_1).f2) ((rd_T46 l0 x11_1).f3) ((rd_T46 l0 x11_1).f4) ((rd_T46 l0 x11_1).f5) = some r) ∧ Aside0 (kq ≤ k1) ∧ Aside0 (wc.heap[gb134]? = some (mapObj (Value.int .i64) Value.bool x135000_1)) ∧ Aside0 (wc.heap[gb136]? = some (.cells #[.int .i64 ((rd_T46 l0 x11_1).f0), .bool ((rd_T46 l0 x11_1).f1), .string ((rd_T46 l0 x11_1).f2), .string ((rd_T46 l0 x11_1).f3), .int .i64 ((rd_T46 l0 x11_1).f4), .int .i64 ((rd_T46 l0 x11_1).f5)] 46 (0, 0))) ∧ Aside0 (Below w.heap.size w wc))
            case first =>
              have H := HC6.out
              clear HC6
              replace H := Option.bind_eq_some_iff.mp H
              obtain ⟨t137, A100, H⟩ := H
              replace H : (if t137 = true then ((impl_isKey.f ((rd_T46 l0 x11_1).f2)).bind fun t138 => (if t138 = true then ((impl_isValue.f k1 ((rd_T46 l0 x11_1).f3)).bind fun t139 => (if t139 = true then (if ((rd_T46 l0 x11_1).f4) < 0 then (impl_areCalls.j1 k1 l0 x11_1 l0 (l0.length : Int) x11_1 true x135000_1 ((rd_T46 l0 x11_1).f0) ((rd_T46 l0 x11_1).f1) ((rd_T46 l0 x11_1).f2) ((rd_T46 l0 x11_1).f3) ((rd_T46 l0 x11_1).f4) ((rd_T46 l0 x11_1).f5)) else (if ((rd_T46 l0 x11_1).f5) ≤ ((rd_T46 l0 x11_1).f4) then (impl_areCalls.j1 k1 l0 x11_1 l0 (l0.length : Int) x11_1 true x135000_1 ((rd_T46 l0 x11_1).f0) ((rd_T46 l0 x11_1).f1) ((rd_T46 l0 x11_1).f2) ((rd_T46 l0 x11_1).f3) ((rd_T46 l0 x11_1).f4) ((rd_T46 l0 x11_1).f5)) else (if ((rd_T46 l0 x11_1).f5) ≥ 1000000 then (impl_areCalls.j1 k1 l0 x11_1 l0 (l0.length : Int) x11_1 true x135000_1 ((rd_T46 l0 x11_1).f0) ((rd_T46 l0 x11_1).f1) ((rd_T46 l0 x11_1).f2) ((rd_T46 l0 x11_1).f3) ((rd_T46 l0 x11_1).f4) ((rd_T46 l0 x11_1).f5)) else (if (mgetD x135000_1 ((rd_T46 l0 x11_1).f4) false) = true then (impl_areCalls.j1 k1 l0 x11_1 l0 (l0.length : Int) x11_1 true x135000_1 ((rd_T46 l0 x11_1).f0) ((rd_T46 l0 x11_1).f1) ((rd_T46 l0 x11_1).f2) ((rd_T46 l0 x11_1).f3) ((rd_T46 l0 x11_1).f4) ((rd_T46 l0 x11_1).f5)) else (impl_areCalls.j1 k1 l0 x11_1 l0 (l0.length : Int) x11_1 (mgetD x135000_1 ((rd_T46 l0 x11_1).f5) false) x135000_1 ((rd_T46 l0 x11_1).f0) ((rd_T46 l0 x11_1).f1) ((rd_T46 l0 x11_1).f2) ((rd_T46 l0 x11_1).f3) ((rd_T46 l0 x11_1).f4) ((rd_T46 l0 x11_1).f5)))))) else (impl_areCalls.j1 k1 l0 x11_1 l0 (l0.length : Int) x11_1 true x135000_1 ((rd_T46 l0 x11_1).f0) ((rd_T46 l0 x11_1).f1) ((rd_T46 l0 x11_1).f2) ((rd_T46 l0 x11_1).f3) ((rd_T46 l0 x11_1).f4) ((rd_T46 l0 x11_1).f5)))) else (impl_areCalls.j1 k1 l0 x11_1 l0 (l0.length : Int) x11_1 true x135000_1 ((rd_T46 l0 x11_1).f0) ((rd_T46 l0 x11_1).f1) ((rd_T46 l0 x11_1).f2) ((rd_T46 l0 x11_1).f3) ((rd_T46 l0 x11_1).f4) ((rd_T46 l0 x11_1).f5)))) else (impl_areCalls.j1 k1 l0 x11_1 l0 (l0.length : Int) x11_1 true x135000_1 ((rd_T46 l0 x11_1).f0) ((rd_T46 l0 x11_1).f1) ((rd_T46 l0 x11_1).f2) ((rd_T46 l0 x11_1).f3) ((rd_T46 l0 x11_1).f4) ((rd_T46 l0 x11_1).f5))) = some r := H
              have A10 := Aside0.mk A100
              clear A100
              by_cases c11 : t137 = true
              · subst c11
                have H1 : ((impl_isKey.f ((rd_T46 l0 x11_1).f2)).bind fun t138 => (if t138 = true then ((impl_isValue.f k1 ((rd_T46 l0 x11_1).f3)).bind fun t139 => (if t139 = true then (if ((rd_T46 l0 x11_1).f4) < 0 then (impl_areCalls.j1 k1 l0 x11_1 l0 (l0.length : Int) x11_1 true x135000_1 ((rd_T46 l0 x11_1).f0) ((rd_T46 l0 x11_1).f1) ((rd_T46 l0 x11_1).f2) ((rd_T46 l0 x11_1).f3) ((rd_T46 l0 x11_1).f4) ((rd_T46 l0 x11_1).f5)) else (if ((rd_T46 l0 x11_1).f5) ≤ ((rd_T46 l0 x11_1).f4) then (impl_areCalls.j1 k1 l0 x11_1 l0 (l0.length : Int) x11_1 true x135000_1 ((rd_T46 l0 x11_1).f0) ((rd_T46 l0 x11_1).f1) ((rd_T46 l0 x11_1).f2) ((rd_T46 l0 x11_1).f3) ((rd_T46 l0 x11_1).f4) ((rd_T46 l0 x11_1).f5)) else (if ((rd_T46 l0 x11_1).f5) ≥ 1000000 then (impl_areCalls.j1 k1 l0 x11_1 l0 (l0.length : Int) x11_1 true x135000_1 ((rd_T46 l0 x11_1).f0) ((rd_T46 l0 x11_1).f1) ((rd_T46 l0 x11_1).f2) ((rd_T46 l0 x11_1).f3) ((rd_T46 l0 x11_1).f4) ((rd_T46 l0 x11_1).f5)) else (if (mgetD x135000_1 ((rd_T46 l0 x11_1).f4) false) = true then (impl_areCalls.j1 k1 l0 x11_1 l0 (l0.length : Int) x11_1 true x135000_1 ((rd_T46 l0 x11_1).f0) ((rd_T46 l0 x11_1).f1) ((rd_T46 l0 x11_1).f2) ((rd_T46 l0 x11_1).f3) ((rd_T46 l0 x11_1).f4) ((rd_T46 l0 x11_1).f5)) else (impl_areCalls.j1 k1 l0 x11_1 l0 (l0.length : Int) x11_1 (mgetD x135000_1 ((rd_T46 l0 x11_1).f5) false) x135000_1 ((rd_T46 l0 x11_1).f0) ((rd_T46 l0 x11_1).f1) ((rd_T46 l0 x11_1).f2) ((rd_T46 l0 x11_1).f3) ((rd_T46 l0 x11_1).f4) ((rd_T46 l0 x11_1).f5)))))) else (impl_areCalls.j1 k1 l0 x11_1 l0 (l0.length : Int) x11_1 true x135000_1 ((rd_T46 l0 x11_1).f0) ((rd_T46 l0 x11_1).f1) ((rd_T46 l0 x11_1).f2) ((rd_T46 l0 x11_1).f3) ((rd_T46 l0 x11_1).f4) ((rd_T46 l0 x11_1).f5)))) else (impl_areCalls.j1 k1 l0 x11_1 l0 (l0.length : Int) x11_1 true x135000_1 ((rd_T46 l0 x11_1).f0) ((rd_T46 l0 x11_1).f1) ((rd_T46 l0 x11_1).f2) ((rd_T46 l0 x11_1).f3) ((rd_T46 l0 x11_1).f4) ((rd_T46 l0 x11_1).f5)))) = some r := by rw [if_pos rfl] at H; exact H
                clear H
                have H := H1
                clear H1
                replace H := Option.bind_eq_some_iff.mp H
                obtain ⟨t138, A120, H⟩ := H
                replace H : (if t138 = true then ((impl_isValue.f k1 ((rd_T46 l0 x11_1).f3)).bind fun t139 => (if t139 = true then (if ((rd_T46 l0 x11_1).f4) < 0 then (impl_areCalls.j1 k1 l0 x11_1 l0 (l0.length : Int) x11_1 true x135000_1 ((rd_T46 l0 x11_1).f0) ((rd_T46 l0 x11_1).f1) ((rd_T46 l0 x11_1).f2) ((rd_T46 l0 x11_1).f3) ((rd_T46 l0 x11_1).f4) ((rd_T46 l0 x11_1).f5)) else (if ((rd_T46 l0 x11_1).f5) ≤ ((rd_T46 l0 x11_1).f4) then (impl_areCalls.j1 k1 l0 x11_1 l0 (l0.length : Int) x11_1 true x135000_1 ((rd_T46 l0 x11_1).f0) ((rd_T46 l0 x11_1).f1) ((rd_T46 l0 x11_1).f2) ((rd_T46 l0 x11_1).f3) ((rd_T46 l0 x11_1).f4) ((rd_T46 l0 x11_1).f5)) else (if ((rd_T46 l0 x11_1).f5) ≥ 1000000 then (impl_areCalls.j1 k1 l0 x11_1 l0 (l0.length : Int) x11_1 true x135000_1 ((rd_T46 l0 x11_1).f0) ((rd_T46 l0 x11_1).f1) ((rd_T46 l0 x11_1).f2) ((rd_T46 l0 x11_1).f3) ((rd_T46 l0 x11_1).f4) ((rd_T46 l0 x11_1).f5)) else (if (mgetD x135000_1 ((rd_T46 l0 x11_1).f4) false) = true then (impl_areCalls.j1 k1 l0 x11_1 l0 (l0.length : Int) x11_1 true x135000_1 ((rd_T46 l0 x11_1).f0) ((rd_T46 l0 x11_1).f1) ((rd_T46 l0 x11_1).f2) ((rd_T46 l0 x11_1).f3) ((rd_T46 l0 x11_1).f4) ((rd_T46 l0 x11_1).f5)) else (impl_areCalls.j1 k1 l0 x11_1 l0 (l0.length : Int) x11_1 (mgetD x135000_1 ((rd_T46 l0 x11_1).f5) false) x135000_1 ((rd_T46 l0 x11_1).f0) ((rd_T46 l0 x11_1).f1) ((rd_T46 l0 x11_1).f2) ((rd_T46 l0 x11_1).f3) ((rd_T46 l0 x11_1).f4) ((rd_T46 l0 x11_1).f5)))))) else (impl_areCalls.j1 k1 l0 x11_1 l0 (l0.length : Int) x11_1 true x135000_1 ((rd_T46 l0 x11_1).f0) ((rd_T46 l0 x11_1).f1) ((rd_T46 l0 x11_1).f2) ((rd_T46 l0 x11_1).f3) ((rd_T46 l0 x11_1).f4) ((rd_T46 l0 x11_1).f5)))) else (impl_areCalls.j1 k1 l0 x11_1 l0 (l0.length : Int) x11_1 true x135000_1 ((rd_T46 l0 x11_1).f0) ((rd_T46 l0 x11_1).f1) ((rd_T46 l0 x11_1).f2) ((rd_T46 l0 x11_1).f3) ((rd_T46 l0 x11_1).f4) ((rd_T46 l0 x11_1).f5))) = some r := H
                have A12 := Aside0.mk A120
                clear A120
                by_cases c13 : t138 = true
                · subst c13
                  have H1 : ((impl_isValue.f k1 ((rd_T46 l0 x11_1).f3)).bind fun t139 => (if t139 = true then (if ((rd_T46 l0 x11_1).f4) < 0 then (impl_areCalls.j1 k1 l0 x11_1 l0 (l0.length : Int) x11_1 true x135000_1 ((rd_T46 l0 x11_1).f0) ((rd_T46 l0 x11_1).f1) ((rd_T46 l0 x11_1).f2) ((rd_T46 l0 x11_1).f3) ((rd_T46 l0 x11_1).f4) ((rd_T46 l0 x11_1).f5)) else (if ((rd_T46 l0 x11_1).f5) ≤ ((rd_T46 l0 x11_1).f4) then (impl_areCalls.j1 k1 l0 x11_1 l0 (l0.length : Int) x11_1 true x135000_1 ((rd_T46 l0 x11_1).f0) ((rd_T46 l0 x11_1).f1) ((rd_T46 l0 x11_1).f2) ((rd_T46 l0 x11_1).f3) ((rd_T46 l0 x11_1).f4) ((rd_T46 l0 x11_1).f5)) else (if ((rd_T46 l0 x11_1).f5) ≥ 1000000 then (impl_areCalls.j1 k1 l0 x11_1 l0 (l0.length : Int) x11_1 true x135000_1 ((rd_T46 l0 x11_1).f0) ((rd_T46 l0 x11_1).f1) ((rd_T46 l0 x11_1).f2) ((rd_T46 l0 x11_1).f3) ((rd_T46 l0 x11_1).f4) ((rd_T46 l0 x11_1).f5)) else (if (mgetD x135000_1 ((rd_T46 l0 x11_1).f4) false) = true then (impl_areCalls.j1 k1 l0 x11_1 l0 (l0.length : Int) x11_1 true x135000_1 ((rd_T46 l0 x11_1).f0) ((rd_T46 l0 x11_1).f1) ((rd_T46 l0 x11_1).f2) ((rd_T46 l0 x11_1).f3) ((rd_T46 l0 x11_1).f4) ((rd_T46 l0 x11_1).f5)) else (impl_areCalls.j1 k1 l0 x11_1 l0 (l0.length : Int) x11_1 (mgetD x135000_1 ((rd_T46 l0 x11_1).f5) false) x135000_1 ((rd_T46 l0 x11_1).f0) ((rd_T46 l0 x11_1).f1) ((rd_T46 l0 x11_1).f2) ((rd_T46 l0 x11_1).f3) ((rd_T46 l0 x11_1).f4) ((rd_T46 l0 x11_1).f5)))))) else (impl_areCalls.j1 k1 l0 x11_1 l0 (l0.length : Int) x11_1 true x135000_1 ((rd_T46 l0 x11_1).f0) ((rd_T46 l0 x11_1).f1) ((rd_T46 l0 x11_1).f2) ((rd_T46 l0 x11_1).f3) ((rd_T46 l0 x11_1).f4) ((rd_T46 l0 x11_1).f5)))) = some r := by rw [if_pos rfl] at H; exact H
                  clear H
                  have H := H1
                  clear H1
                  replace H := Option.bind_eq_some_iff.mp H
                  obtain ⟨t139, A140, H⟩ := H
                  replace H : (if t139 = true then (if ((rd_T46 l0 x11_1).f4) < 0 then (impl_areCalls.j1 k1 l0 x11_1 l0 (l0.length : Int) x11_1 true x135000_1 ((rd_T46 l0 x11_1).f0) ((rd_T46 l0 x11_1).f1) ((rd_T46 l0 x11_1).f2) ((rd_T46 l0 x11_1).f3) ((rd_T46 l0 x11_1).f4) ((rd_T46 l0 x11_1).f5)) else (if ((rd_T46 l0 x11_1).f5) ≤ ((rd_T46 l0 x11_1).f4) then (impl_areCalls.j1 k1 l0 x11_1 l0 (l0.length : Int) x11_1 true x135000_1 ((rd_T46 l0 x11_1).f0) ((rd_T46 l0 x11_1).f1) ((rd_T46 l0 x11_1).f2) ((rd_T46 l0 x11_1).f3) ((rd_T46 l0 x11_1).f4) ((rd_T46 l0 x11_1).f5)) else (if ((rd_T46 l0 x11_1).f5) ≥ 1000000 then (impl_areCalls.j1 k1 l0 x11_1 l0 (l0.length : Int) x11_1 true x135000_1 ((rd_T46 l0 x11_1).f0) ((rd_T46 l0 x11_1).f1) ((rd_T46 l0 x11_1).f2) ((rd_T46 l0 x11_1).f3) ((rd_T46 l0 x11_1).f4) ((rd_T46 l0 x11_1).f5)) else (if (mgetD x135000_1 ((rd_T46 l0 x11_1).f4) false) = true then (impl_areCalls.j1 k1 l0 x11_1 l0 (l0.length : Int) x11_1 true x135000_1 ((rd_T46 l0 x11_1).f0) ((rd_T46 l0 x11_1).f1) ((rd_T46 l0 x11_1).f2) ((rd_T46 l0 x11_1).f3) ((rd_T46 l0 x11_1).f4) ((rd_T46 l0 x11_1).f5)) else (impl_areCalls.j1 k1 l0 x11_1 l0 (l0.length : Int) x11_1 (mgetD x135000_1 ((rd_T46 l0 x11_1).f5) false) x135000_1 ((rd_T46 l0 x11_1).f0) ((rd_T46 l0 x11_1).f1) ((rd_T46 l0 x11_1).f2) ((rd_T46 l0 x11_1).f3) ((rd_T46 l0 x11_1).f4) ((rd_T46 l0 x11_1).f5)))))) else (impl_areCalls.j1 k1 l0 x11_1 l0 (l0.length : Int) x11_1 true x135000_1 ((rd_T46 l0 x11_1).f0) ((rd_T46 l0 x11_1).f1) ((rd_T46 l0 x11_1).f2) ((rd_T46 l0 x11_1).f3) ((rd_T46 l0 x11_1).f4) ((rd_T46 l0 x11_1).f5))) = some r := H
                  have A14 := Aside0.mk A140
                  clear A140
                  by_cases c15 : t139 = true
                  · subst c15
                    have H1 : (if ((rd_T46 l0 x11_1).f4) < 0 then (impl_areCalls.j1 k1 l0 x11_1 l0 (l0.length : Int) x11_1 true x135000_1 ((rd_T46 l0 x11_1).f0) ((rd_T46 l0 x11_1).f1) ((rd_T46 l0 x11_1).f2) ((rd_T46 l0 x11_1).f3) ((rd_T46 l0 x11_1).f4) ((rd_T46 l0 x11_1).f5)) else (if ((rd_T46 l0 x11_1).f5) ≤ ((rd_T46 l0 x11_1).f4) then (impl_areCalls.j1 k1 l0 x11_1 l0 (l0.length : Int) x11_1 true x135000_1 ((rd_T46 l0 x11_1).f0) ((rd_T46 l0 x11_1).f1) ((rd_T46 l0 x11_1).f2) ((rd_T46 l0 x11_1).f3) ((rd_T46 l0 x11_1).f4) ((rd_T46 l0 x11_1).f5)) else (if ((rd_T46 l0 x11_1).f5) ≥ 1000000 then (impl_areCalls.j1 k1 l0 x11_1 l0 (l0.length : Int) x11_1 true x135000_1 ((rd_T46 l0 x11_1).f0) ((rd_T46 l0 x11_1).f1) ((rd_T46 l0 x11_1).f2) ((rd_T46 l0 x11_1).f3) ((rd_T46 l0 x11_1).f4) ((rd_T46 l0 x11_1).f5)) else (if (mgetD x135000_1 ((rd_T46 l0 x11_1).f4) false) = true then (impl_areCalls.j1 k1 l0 x11_1 l0 (l0.length : Int) x11_1 true x135000_1 ((rd_T46 l0 x11_1).f0) ((rd_T46 l0 x11_1).f1) ((rd_T46 l0 x11_1).f2) ((rd_T46 l0 x11_1).f3) ((rd_T46 l0 x11_1).f4) ((rd_T46 l0 x11_1).f5)) else (impl_areCalls.j1 k1 l0 x11_1 l0 (l0.length : Int) x11_1 (mgetD x135000_1 ((rd_T46 l0 x11_1).f5) false) x135000_1 ((rd_T46 l0 x11_1).f0) ((rd_T46 l0 x11_1).f1) ((rd_T46 l0 x11_1).f2) ((rd_T46 l0 x11_1).f3) ((rd_T46 l0 x11_1).f4) ((rd_T46 l0 x11_1).f5)))))) = some r := by rw [if_pos rfl] at H; exact H
                    clear H
                    have H := H1
                    clear H1
                    by_cases c16 : ((rd_T46 l0 x11_1).f4) < 0
                    · rw [if_pos c16] at H
                      have c16b0 : decide (((rd_T46 l0 x11_1).f4) < 0) = true := decide_eq_true c16
                      clear c16
                      (first | rw [c16b0] | (simp only [i64_w, i32_w]; rw [c16b0]) | skip)
                      have H' := Aside0.mk H
                      clear H
                      have hnb17 := NB136_134.out
                      have hnc17 := NB134_136.out
                      have hcz18_0 : w7.cell? ⟨gb136, 0, none⟩ = some (.int .i64 0) := (blk_cell BK136.out 0).trans rfl
                      have hcz18_1 : w7.cell? ⟨gb136, 1, none⟩ = some (.bool false) := (blk_cell BK136.out 1).trans rfl
                      have hcz18_2 : w7.cell? ⟨gb136, 2, none⟩ = some (.string (⟨#[]⟩ : ByteArray)) := (blk_cell BK136.out 2).trans rfl
                      have hcz18_3 : w7.cell? ⟨gb136, 3, none⟩ = some (.string (⟨#[]⟩ : ByteArray)) := (blk_cell BK136.out 3).trans rfl
                      have hcz18_4 : w7.cell? ⟨gb136, 4, none⟩ = some (.int .i64 0) := (blk_cell BK136.out 4).trans rfl
                      have hcz18_5 : w7.cell? ⟨gb136, 5, none⟩ = some (.int .i64 0) := (blk_cell BK136.out 5).trans rfl
                      have hfz18_0 := blk_frozen BK136.out 0
                      have hfz18_1 := blk_frozen BK136.out 1
                      have hfz18_2 := blk_frozen BK136.out 2
                      have hfz18_3 := blk_frozen BK136.out 3
                      have hfz18_4 := blk_frozen BK136.out 4
                      have hfz18_5 := blk_frozen BK136.out 5
                      go_wp2_with (first | ((with_reducible refine gate_callee (f := 49) rfl ?_); refine goesL_ (some 18) rfl rfl Tryd.func49 (by kernel_rfl) rfl #[.int .i64 ((rd_T46 l0 x11_1).f0), .int .i64 0, .int .i64 9] rfl (by (try simp only [List.map_toArray, List.map_cons, List.map_nil]); first | done | rfl | (simp only [List.length_drop, List.length_take]; rfl)) ?_; (with_reducible refine (impl_in.calls ((rd_T46 l0 x11_1).f0) 0 9 true _ A10.out).mono ?_); rintro e w' ⟨rfl, ⟨nd, rfl⟩⟩; refine ⟨_, rfl, ?_⟩) | (go_at_call 52; (with_reducible refine (impl_isKey.calls ((rd_T46 l0 x11_1).f2) true _ A12.out).mono ?_); rintro e w19 ⟨rfl, hb⟩; have n0_ := Aside0.mk (blk_below (g := gb134) (o := mapObj (Value.int .i64) Value.bool x135000_1) (by (with_reducible repeat (first | refine blk_drewN ?_ _ | refine blk_drew ?_ | refine blk_alloc ?_ _)); refine obj_far ?_ NB134_136.out _; (with_reducible repeat (first | refine blk_drewN ?_ _ | refine blk_drew ?_ | refine blk_alloc ?_ _)); refine obj_far ?_ NB134_136.out _; (with_reducible repeat (first | refine blk_drewN ?_ _ | refine blk_drew ?_ | refine blk_alloc ?_ _)); refine obj_far ?_ NB134_136.out _; (with_reducible repeat (first | refine blk_drewN ?_ _ | refine blk_drew ?_ | refine blk_alloc ?_ _)); refine obj_far ?_ NB134_136.out _; (with_reducible repeat (first | refine blk_drewN ?_ _ | refine blk_drew ?_ | refine blk_alloc ?_ _)); refine obj_far ?_ NB134_136.out _; (with_reducible repeat (first | refine blk_drewN ?_ _ | refine blk_drew ?_ | refine blk_alloc ?_ _)); refine obj_far ?_ NB134_136.out _; (with_reducible repeat (first | refine blk_drewN ?_ _ | refine blk_drew ?_ | refine blk_alloc ?_ _)); exact BK134.out) hb); have n1_ := Aside0.mk (blk_below (g := gb136) (o := .cells #[.int .i64 ((rd_T46 l0 x11_1).f0), .bool ((rd_T46 l0 x11_1).f1), .string ((rd_T46 l0 x11_1).f2), .string ((rd_T46 l0 x11_1).f3), .int .i64 ((rd_T46 l0 x11_1).f4), .int .i64 ((rd_T46 l0 x11_1).f5)] 46 (0, 0)) (by (with_reducible repeat (first | refine blk_drewN ?_ _ | refine blk_drew ?_ | refine blk_alloc ?_ _)); refine blk_put (cs := #[.int .i64 ((rd_T46 l0 x11_1).f0), .bool ((rd_T46 l0 x11_1).f1), .string ((rd_T46 l0 x11_1).f2), .string ((rd_T46 l0 x11_1).f3), .int .i64 ((rd_T46 l0 x11_1).f4), .int .i64 0]) ?_ 5 _ rfl; (with_reducible repeat (first | refine blk_drewN ?_ _ | refine blk_drew ?_ | refine blk_alloc ?_ _)); refine blk_put (cs := #[.int .i64 ((rd_T46 l0 x11_1).f0), .bool ((rd_T46 l0 x11_1).f1), .string ((rd_T46 l0 x11_1).f2), .string ((rd_T46 l0 x11_1).f3), .int .i64 0, .int .i64 0]) ?_ 4 _ rfl; (with_reducible repeat (first | refine blk_drewN ?_ _ | refine blk_drew ?_ | refine blk_alloc ?_ _)); refine blk_put (cs := #[.int .i64 ((rd_T46 l0 x11_1).f0), .bool ((rd_T46 l0 x11_1).f1), .string ((rd_T46 l0 x11_1).f2), .string (⟨#[]⟩ : ByteArray), .int .i64 0, .int .i64 0]) ?_ 3 _ rfl; (with_reducible repeat (first | refine blk_drewN ?_ _ | refine blk_drew ?_ | refine blk_alloc ?_ _)); refine blk_put (cs := #[.int .i64 ((rd_T46 l0 x11_1).f0), .bool ((rd_T46 l0 x11_1).f1), .string (⟨#[]⟩ : ByteArray), .string (⟨#[]⟩ : ByteArray), .int .i64 0, .int .i64 0]) ?_ 2 _ rfl; (with_reducible repeat (first | refine blk_drewN ?_ _ | refine blk_drew ?_ | refine blk_alloc ?_ _)); refine blk_put (cs := #[.int .i64 ((rd_T46 l0 x11_1).f0), .bool false, .string (⟨#[]⟩ : ByteArray), .string (⟨#[]⟩ : ByteArray), .int .i64 0, .int .i64 0]) ?_ 1 _ rfl; (with_reducible repeat (first | refine blk_drewN ?_ _ | refine blk_drew ?_ | refine blk_alloc ?_ _)); refine blk_put (cs := #[.int .i64 0, .bool false, .string (⟨#[]⟩ : ByteArray), .string (⟨#[]⟩ : ByteArray), .int .i64 0, .int .i64 0]) ?_ 0 _ rfl; (with_reducible repeat (first | refine blk_drewN ?_ _ | refine blk_drew ?_ | refine blk_alloc ?_ _)); exact BK136.out) hb); have n2_ := Aside0.mk (below_step (by repeat (first | (with_reducible first | exact HB.out | apply below_alloc | apply pw_below_drewN | apply below_drew1 | refine below_set ?_ GE134.out | refine below_set ?_ GE136.out) | exact HB.out)) hb); clear BK134; clear BK136; clear HB; have BK134 := n0_; have BK136 := n1_; have HB := n2_; clear n0_ n1_ n2_; (try clear hb); (try clear hb2); (try clear hk); (try clear hi); have hcz20_0 : w19.cell? ⟨gb136, 0, none⟩ = some (.int .i64 ((rd_T46 l0 x11_1).f0)) := (blk_cell BK136.out 0).trans rfl; have hcz20_1 : w19.cell? ⟨gb136, 1, none⟩ = some (.bool ((rd_T46 l0 x11_1).f1)) := (blk_cell BK136.out 1).trans rfl; have hcz20_2 : w19.cell? ⟨gb136, 2, none⟩ = some (.string ((rd_T46 l0 x11_1).f2)) := (blk_cell BK136.out 2).trans rfl; have hcz20_3 : w19.cell? ⟨gb136, 3, none⟩ = some (.string ((rd_T46 l0 x11_1).f3)) := (blk_cell BK136.out 3).trans rfl; have hcz20_4 : w19.cell? ⟨gb136, 4, none⟩ = some (.int .i64 ((rd_T46 l0 x11_1).f4)) := (blk_cell BK136.out 4).trans rfl; have hcz20_5 : w19.cell? ⟨gb136, 5, none⟩ = some (.int .i64 ((rd_T46 l0 x11_1).f5)) := (blk_cell BK136.out 5).trans rfl; have hfz20_0 := blk_frozen BK136.out 0; have hfz20_1 := blk_frozen BK136.out 1; have hfz20_2 := blk_frozen BK136.out 2; have hfz20_3 := blk_frozen BK136.out 3; have hfz20_4 := blk_frozen BK136.out 4; have hfz20_5 := blk_frozen BK136.out 5) | (go_at_call 53; (with_reducible refine (impl_isValue.calls k1 ((rd_T46 l0 x11_1).f3) true _ A14.out).mono ?_); rintro e w' ⟨rfl, ⟨nd, rfl⟩⟩))
                      go_meet
                      case rel => exact ⟨_, (true), (by first | rfl | (simp; done) | (simp [*]; done)), H', ⟨by have := HK1.out; first | omega | exact Nat.le_refl _⟩, ⟨by (with_reducible repeat (first | refine blk_drewN ?_ _ | refine blk_drew ?_ | refine blk_alloc ?_ _)); exact BK134.out⟩, ⟨by (with_reducible repeat (first | refine blk_drewN ?_ _ | refine blk_drew ?_ | refine blk_alloc ?_ _)); exact BK136.out⟩, ⟨by repeat (first | (with_reducible first | exact HB.out | apply below_alloc | apply pw_below_drewN | apply below_drew1 | refine below_set ?_ GE134.out | refine below_set ?_ GE136.out) | exact HB.out)⟩⟩
                    · rw [if_neg c16] at H
                      have c16b0 : decide (((rd_T46 l0 x11_1).f4) < 0) = false := decide_eq_false c16
                      clear c16
                      (first | rw [c16b0] | (simp only [i64_w, i32_w]; rw [c16b0]) | skip)
                      by_cases c21 : ((rd_T46 l0 x11_1).f5) ≤ ((rd_T46 l0 x11_1).f4)
                      · rw [if_pos c21] at H
                        have c21b0 : decide (((rd_T46 l0 x11_1).f5) ≤ ((rd_T46 l0 x11_1).f4)) = true := decide_eq_true c21
                        clear c21
                        have H' := Aside0.mk H
                        clear H
                        have hnb22 := NB136_134.out
                        have hnc22 := NB134_136.out
                        have hcz23_0 : w7.cell? ⟨gb136, 0, none⟩ = some (.int .i64 0) := (blk_cell BK136.out 0).trans rfl
                        have hcz23_1 : w7.cell? ⟨gb136, 1, none⟩ = some (.bool false) := (blk_cell BK136.out 1).trans rfl
                        have hcz23_2 : w7.cell? ⟨gb136, 2, none⟩ = some (.string (⟨#[]⟩ : ByteArray)) := (blk_cell BK136.out 2).trans rfl
                        have hcz23_3 : w7.cell? ⟨gb136, 3, none⟩ = some (.string (⟨#[]⟩ : ByteArray)) := (blk_cell BK136.out 3).trans rfl
                        have hcz23_4 : w7.cell? ⟨gb136, 4, none⟩ = some (.int .i64 0) := (blk_cell BK136.out 4).trans rfl
                        have hcz23_5 : w7.cell? ⟨gb136, 5, none⟩ = some (.int .i64 0) := (blk_cell BK136.out 5).trans rfl
                        have hfz23_0 := blk_frozen BK136.out 0
                        have hfz23_1 := blk_frozen BK136.out 1
                        have hfz23_2 := blk_frozen BK136.out 2
                        have hfz23_3 := blk_frozen BK136.out 3
                        have hfz23_4 := blk_frozen BK136.out 4
                        have hfz23_5 := blk_frozen BK136.out 5
                        go_wp2_with (first | ((with_reducible refine gate_callee (f := 49) rfl ?_); refine goesL_ (some 18) rfl rfl Tryd.func49 (by kernel_rfl) rfl #[.int .i64 ((rd_T46 l0 x11_1).f0), .int .i64 0, .int .i64 9] rfl (by (try simp only [List.map_toArray, List.map_cons, List.map_nil]); first | done | rfl | (simp only [List.length_drop, List.length_take]; rfl)) ?_; (with_reducible refine (impl_in.calls ((rd_T46 l0 x11_1).f0) 0 9 true _ A10.out).mono ?_); rintro e w' ⟨rfl, ⟨nd, rfl⟩⟩; refine ⟨_, rfl, ?_⟩) | (go_at_call 52; (with_reducible refine (impl_isKey.calls ((rd_T46 l0 x11_1).f2) true _ A12.out).mono ?_); rintro e w24 ⟨rfl, hb⟩; have n0_ := Aside0.mk (blk_below (g := gb134) (o := mapObj (Value.int .i64) Value.bool x135000_1) (by (with_reducible repeat (first | refine blk_drewN ?_ _ | refine blk_drew ?_ | refine blk_alloc ?_ _)); refine obj_far ?_ NB134_136.out _; (with_reducible repeat (first | refine blk_drewN ?_ _ | refine blk_drew ?_ | refine blk_alloc ?_ _)); refine obj_far ?_ NB134_136.out _; (with_reducible repeat (first | refine blk_drewN ?_ _ | refine blk_drew ?_ | refine blk_alloc ?_ _)); refine obj_far ?_ NB134_136.out _; (with_reducible repeat (first | refine blk_drewN ?_ _ | refine blk_drew ?_ | refine blk_alloc ?_ _)); refine obj_far ?_ NB134_136.out _; (with_reducible repeat (first | refine blk_drewN ?_ _ | refine blk_drew ?_ | refine blk_alloc ?_ _)); refine obj_far ?_ NB134_136.out _; (with_reducible repeat (first | refine blk_drewN ?_ _ | refine blk_drew ?_ | refine blk_alloc ?_ _)); refine obj_far ?_ NB134_136.out _; (with_reducible repeat (first | refine blk_drewN ?_ _ | refine blk_drew ?_ | refine blk_alloc ?_ _)); exact BK134.out) hb); have n1_ := Aside0.mk (blk_below (g := gb136) (o := .cells #[.int .i64 ((rd_T46 l0 x11_1).f0), .bool ((rd_T46 l0 x11_1).f1), .string ((rd_T46 l0 x11_1).f2), .string ((rd_T46 l0 x11_1).f3), .int .i64 ((rd_T46 l0 x11_1).f4), .int .i64 ((rd_T46 l0 x11_1).f5)] 46 (0, 0)) (by (with_reducible repeat (first | refine blk_drewN ?_ _ | refine blk_drew ?_ | refine blk_alloc ?_ _)); refine blk_put (cs := #[.int .i64 ((rd_T46 l0 x11_1).f0), .bool ((rd_T46 l0 x11_1).f1), .string ((rd_T46 l0 x11_1).f2), .string ((rd_T46 l0 x11_1).f3), .int .i64 ((rd_T46 l0 x11_1).f4), .int .i64 0]) ?_ 5 _ rfl; (with_reducible repeat (first | refine blk_drewN ?_ _ | refine blk_drew ?_ | refine blk_alloc ?_ _)); refine blk_put (cs := #[.int .i64 ((rd_T46 l0 x11_1).f0), .bool ((rd_T46 l0 x11_1).f1), .string ((rd_T46 l0 x11_1).f2), .string ((rd_T46 l0 x11_1).f3), .int .i64 0, .int .i64 0]) ?_ 4 _ rfl; (with_reducible repeat (first | refine blk_drewN ?_ _ | refine blk_drew ?_ | refine blk_alloc ?_ _)); refine blk_put (cs := #[.int .i64 ((rd_T46 l0 x11_1).f0), .bool ((rd_T46 l0 x11_1).f1), .string ((rd_T46 l0 x11_1).f2), .string (⟨#[]⟩ : ByteArray), .int .i64 0, .int .i64 0]) ?_ 3 _ rfl; (with_reducible repeat (first | refine blk_drewN ?_ _ | refine blk_drew ?_ | refine blk_alloc ?_ _)); refine blk_put (cs := #[.int .i64 ((rd_T46 l0 x11_1).f0), .bool ((rd_T46 l0 x11_1).f1), .string (⟨#[]⟩ : ByteArray), .string (⟨#[]⟩ : ByteArray), .int .i64 0, .int .i64 0]) ?_ 2 _ rfl; (with_reducible repeat (first | refine blk_drewN ?_ _ | refine blk_drew ?_ | refine blk_alloc ?_ _)); refine blk_put (cs := #[.int .i64 ((rd_T46 l0 x11_1).f0), .bool false, .string (⟨#[]⟩ : ByteArray), .string (⟨#[]⟩ : ByteArray), .int .i64 0, .int .i64 0]) ?_ 1 _ rfl; (with_reducible repeat (first | refine blk_drewN ?_ _ | refine blk_drew ?_ | refine blk_alloc ?_ _)); refine blk_put (cs := #[.int .i64 0, .bool false, .string (⟨#[]⟩ : ByteArray), .string (⟨#[]⟩ : ByteArray), .int .i64 0, .int .i64 0]) ?_ 0 _ rfl; (with_reducible repeat (first | refine blk_drewN ?_ _ | refine blk_drew ?_ | refine blk_alloc ?_ _)); exact BK136.out) hb); have n2_ := Aside0.mk (below_step (by repeat (first | (with_reducible first | exact HB.out | apply below_alloc | apply pw_below_drewN | apply below_drew1 | refine below_set ?_ GE134.out | refine below_set ?_ GE136.out) | exact HB.out)) hb); clear BK134; clear BK136; clear HB; have BK134 := n0_; have BK136 := n1_; have HB := n2_; clear n0_ n1_ n2_; (try clear hb); (try clear hb2); (try clear hk); (try clear hi); have hcz25_0 : w24.cell? ⟨gb136, 0, none⟩ = some (.int .i64 ((rd_T46 l0 x11_1).f0)) := (blk_cell BK136.out 0).trans rfl; have hcz25_1 : w24.cell? ⟨gb136, 1, none⟩ = some (.bool ((rd_T46 l0 x11_1).f1)) := (blk_cell BK136.out 1).trans rfl; have hcz25_2 : w24.cell? ⟨gb136, 2, none⟩ = some (.string ((rd_T46 l0 x11_1).f2)) := (blk_cell BK136.out 2).trans rfl; have hcz25_3 : w24.cell? ⟨gb136, 3, none⟩ = some (.string ((rd_T46 l0 x11_1).f3)) := (blk_cell BK136.out 3).trans rfl; have hcz25_4 : w24.cell? ⟨gb136, 4, none⟩ = some (.int .i64 ((rd_T46 l0 x11_1).f4)) := (blk_cell BK136.out 4).trans rfl; have hcz25_5 : w24.cell? ⟨gb136, 5, none⟩ = some (.int .i64 ((rd_T46 l0 x11_1).f5)) := (blk_cell BK136.out 5).trans rfl; have hfz25_0 := blk_frozen BK136.out 0; have hfz25_1 := blk_frozen BK136.out 1; have hfz25_2 := blk_frozen BK136.out 2; have hfz25_3 := blk_frozen BK136.out 3; have hfz25_4 := blk_frozen BK136.out 4; have hfz25_5 := blk_frozen BK136.out 5) | (go_at_call 53; (with_reducible refine (impl_isValue.calls k1 ((rd_T46 l0 x11_1).f3) true _ A14.out).mono ?_); rintro e w' ⟨rfl, ⟨nd, rfl⟩⟩))
                        go_meet
                        case rel => exact ⟨_, (true), (by first | rfl | (simp; done) | (simp [*]; done)), H', ⟨by have := HK1.out; first | omega | exact Nat.le_refl _⟩, ⟨by (with_reducible repeat (first | refine blk_drewN ?_ _ | refine blk_drew ?_ | refine blk_alloc ?_ _)); exact BK134.out⟩, ⟨by (with_reducible repeat (first | refine blk_drewN ?_ _ | refine blk_drew ?_ | refine blk_alloc ?_ _)); exact BK136.out⟩, ⟨by repeat (first | (with_reducible first | exact HB.out | apply below_alloc | apply pw_below_drewN | apply below_drew1 | refine below_set ?_ GE134.out | refine below_set ?_ GE136.out) | exact HB.out)⟩⟩
                      · rw [if_neg c21] at H
                        have c21b0 : decide (((rd_T46 l0 x11_1).f5) ≤ ((rd_T46 l0 x11_1).f4)) = false := decide_eq_false c21
                        clear c21
                        by_cases c26 : ((rd_T46 l0 x11_1).f5) ≥ 1000000
                        · rw [if_pos c26] at H
                          have c26b0 : decide (1000000 ≤ ((rd_T46 l0 x11_1).f5)) = true := decide_eq_true c26
                          clear c26
                          have H' := Aside0.mk H
                          clear H
                          have hnb27 := NB136_134.out
                          have hnc27 := NB134_136.out
                          have hcz28_0 : w7.cell? ⟨gb136, 0, none⟩ = some (.int .i64 0) := (blk_cell BK136.out 0).trans rfl
                          have hcz28_1 : w7.cell? ⟨gb136, 1, none⟩ = some (.bool false) := (blk_cell BK136.out 1).trans rfl
                          have hcz28_2 : w7.cell? ⟨gb136, 2, none⟩ = some (.string (⟨#[]⟩ : ByteArray)) := (blk_cell BK136.out 2).trans rfl
                          have hcz28_3 : w7.cell? ⟨gb136, 3, none⟩ = some (.string (⟨#[]⟩ : ByteArray)) := (blk_cell BK136.out 3).trans rfl
                          have hcz28_4 : w7.cell? ⟨gb136, 4, none⟩ = some (.int .i64 0) := (blk_cell BK136.out 4).trans rfl
                          have hcz28_5 : w7.cell? ⟨gb136, 5, none⟩ = some (.int .i64 0) := (blk_cell BK136.out 5).trans rfl
                          have hfz28_0 := blk_frozen BK136.out 0
                          have hfz28_1 := blk_frozen BK136.out 1
                          have hfz28_2 := blk_frozen BK136.out 2
                          have hfz28_3 := blk_frozen BK136.out 3
                          have hfz28_4 := blk_frozen BK136.out 4
                          have hfz28_5 := blk_frozen BK136.out 5
                          go_wp2_with (first | ((with_reducible refine gate_callee (f := 49) rfl ?_); refine goesL_ (some 18) rfl rfl Tryd.func49 (by kernel_rfl) rfl #[.int .i64 ((rd_T46 l0 x11_1).f0), .int .i64 0, .int .i64 9] rfl (by (try simp only [List.map_toArray, List.map_cons, List.map_nil]); first | done | rfl | (simp only [List.length_drop, List.length_take]; rfl)) ?_; (with_reducible refine (impl_in.calls ((rd_T46 l0 x11_1).f0) 0 9 true _ A10.out).mono ?_); rintro e w' ⟨rfl, ⟨nd, rfl⟩⟩; refine ⟨_, rfl, ?_⟩) | (go_at_call 52; (with_reducible refine (impl_isKey.calls ((rd_T46 l0 x11_1).f2) true _ A12.out).mono ?_); rintro e w29 ⟨rfl, hb⟩; have n0_ := Aside0.mk (blk_below (g := gb134) (o := mapObj (Value.int .i64) Value.bool x135000_1) (by (with_reducible repeat (first | refine blk_drewN ?_ _ | refine blk_drew ?_ | refine blk_alloc ?_ _)); refine obj_far ?_ NB134_136.out _; (with_reducible repeat (first | refine blk_drewN ?_ _ | refine blk_drew ?_ | refine blk_alloc ?_ _)); refine obj_far ?_ NB134_136.out _; (with_reducible repeat (first | refine blk_drewN ?_ _ | refine blk_drew ?_ | refine blk_alloc ?_ _)); refine obj_far ?_ NB134_136.out _; (with_reducible repeat (first | refine blk_drewN ?_ _ | refine blk_drew ?_ | refine blk_alloc ?_ _)); refine obj_far ?_ NB134_136.out _; (with_reducible repeat (first | refine blk_drewN ?_ _ | refine blk_drew ?_ | refine blk_alloc ?_ _)); refine obj_far ?_ NB134_136.out _; (with_reducible repeat (first | refine blk_drewN ?_ _ | refine blk_drew ?_ | refine blk_alloc ?_ _)); refine obj_far ?_ NB134_136.out _; (with_reducible repeat (first | refine blk_drewN ?_ _ | refine blk_drew ?_ | refine blk_alloc ?_ _)); exact BK134.out) hb); have n1_ := Aside0.mk (blk_below (g := gb136) (o := .cells #[.int .i64 ((rd_T46 l0 x11_1).f0), .bool ((rd_T46 l0 x11_1).f1), .string ((rd_T46 l0 x11_1).f2), .string ((rd_T46 l0 x11_1).f3), .int .i64 ((rd_T46 l0 x11_1).f4), .int .i64 ((rd_T46 l0 x11_1).f5)] 46 (0, 0)) (by (with_reducible repeat (first | refine blk_drewN ?_ _ | refine blk_drew ?_ | refine blk_alloc ?_ _)); refine blk_put (cs := #[.int .i64 ((rd_T46 l0 x11_1).f0), .bool ((rd_T46 l0 x11_1).f1), .string ((rd_T46 l0 x11_1).f2), .string ((rd_T46 l0 x11_1).f3), .int .i64 ((rd_T46 l0 x11_1).f4), .int .i64 0]) ?_ 5 _ rfl; (with_reducible repeat (first | refine blk_drewN ?_ _ | refine blk_drew ?_ | refine blk_alloc ?_ _)); refine blk_put (cs := #[.int .i64 ((rd_T46 l0 x11_1).f0), .bool ((rd_T46 l0 x11_1).f1), .string ((rd_T46 l0 x11_1).f2), .string ((rd_T46 l0 x11_1).f3), .int .i64 0, .int .i64 0]) ?_ 4 _ rfl; (with_reducible repeat (first | refine blk_drewN ?_ _ | refine blk_drew ?_ | refine blk_alloc ?_ _)); refine blk_put (cs := #[.int .i64 ((rd_T46 l0 x11_1).f0), .bool ((rd_T46 l0 x11_1).f1), .string ((rd_T46 l0 x11_1).f2), .string (⟨#[]⟩ : ByteArray), .int .i64 0, .int .i64 0]) ?_ 3 _ rfl; (with_reducible repeat (first | refine blk_drewN ?_ _ | refine blk_drew ?_ | refine blk_alloc ?_ _)); refine blk_put (cs := #[.int .i64 ((rd_T46 l0 x11_1).f0), .bool ((rd_T46 l0 x11_1).f1), .string (⟨#[]⟩ : ByteArray), .string (⟨#[]⟩ : ByteArray), .int .i64 0, .int .i64 0]) ?_ 2 _ rfl; (with_reducible repeat (first | refine blk_drewN ?_ _ | refine blk_drew ?_ | refine blk_alloc ?_ _)); refine blk_put (cs := #[.int .i64 ((rd_T46 l0 x11_1).f0), .bool false, .string (⟨#[]⟩ : ByteArray), .string (⟨#[]⟩ : ByteArray), .int .i64 0, .int .i64 0]) ?_ 1 _ rfl; (with_reducible repeat (first | refine blk_drewN ?_ _ | refine blk_drew ?_ | refine blk_alloc ?_ _)); refine blk_put (cs := #[.int .i64 0, .bool false, .string (⟨#[]⟩ : ByteArray), .string (⟨#[]⟩ : ByteArray), .int .i64 0, .int .i64 0]) ?_ 0 _ rfl; (with_reducible repeat (first | refine blk_drewN ?_ _ | refine blk_drew ?_ | refine blk_alloc ?_ _)); exact BK136.out) hb); have n2_ := Aside0.mk (below_step (by repeat (first | (with_reducible first | exact HB.out | apply below_alloc | apply pw_below_drewN | apply below_drew1 | refine below_set ?_ GE134.out | refine below_set ?_ GE136.out) | exact HB.out)) hb); clear BK134; clear BK136; clear HB; have BK134 := n0_; have BK136 := n1_; have HB := n2_; clear n0_ n1_ n2_; (try clear hb); (try clear hb2); (try clear hk); (try clear hi); have hcz30_0 : w29.cell? ⟨gb136, 0, none⟩ = some (.int .i64 ((rd_T46 l0 x11_1).f0)) := (blk_cell BK136.out 0).trans rfl; have hcz30_1 : w29.cell? ⟨gb136, 1, none⟩ = some (.bool ((rd_T46 l0 x11_1).f1)) := (blk_cell BK136.out 1).trans rfl; have hcz30_2 : w29.cell? ⟨gb136, 2, none⟩ = some (.string ((rd_T46 l0 x11_1).f2)) := (blk_cell BK136.out 2).trans rfl; have hcz30_3 : w29.cell? ⟨gb136, 3, none⟩ = some (.string ((rd_T46 l0 x11_1).f3)) := (blk_cell BK136.out 3).trans rfl; have hcz30_4 : w29.cell? ⟨gb136, 4, none⟩ = some (.int .i64 ((rd_T46 l0 x11_1).f4)) := (blk_cell BK136.out 4).trans rfl; have hcz30_5 : w29.cell? ⟨gb136, 5, none⟩ = some (.int .i64 ((rd_T46 l0 x11_1).f5)) := (blk_cell BK136.out 5).trans rfl; have hfz30_0 := blk_frozen BK136.out 0; have hfz30_1 := blk_frozen BK136.out 1; have hfz30_2 := blk_frozen BK136.out 2; have hfz30_3 := blk_frozen BK136.out 3; have hfz30_4 := blk_frozen BK136.out 4; have hfz30_5 := blk_frozen BK136.out 5) | (go_at_call 53; (with_reducible refine (impl_isValue.calls k1 ((rd_T46 l0 x11_1).f3) true _ A14.out).mono ?_); rintro e w' ⟨rfl, ⟨nd, rfl⟩⟩))
                          go_meet
                          case rel => exact ⟨_, (true), (by first | rfl | (simp; done) | (simp [*]; done)), H', ⟨by have := HK1.out; first | omega | exact Nat.le_refl _⟩, ⟨by (with_reducible repeat (first | refine blk_drewN ?_ _ | refine blk_drew ?_ | refine blk_alloc ?_ _)); exact BK134.out⟩, ⟨by (with_reducible repeat (first | refine blk_drewN ?_ _ | refine blk_drew ?_ | refine blk_alloc ?_ _)); exact BK136.out⟩, ⟨by repeat (first | (with_reducible first | exact HB.out | apply below_alloc | apply pw_below_drewN | apply below_drew1 | refine below_set ?_ GE134.out | refine below_set ?_ GE136.out) | exact HB.out)⟩⟩
                        · rw [if_neg c26] at H
                          have c26b0 : decide (1000000 ≤ ((rd_T46 l0 x11_1).f5)) = false := decide_eq_false c26
                          clear c26
                          by_cases c31 : (mgetD x135000_1 ((rd_T46 l0 x11_1).f4) false) = true
                          · rw [if_pos c31] at H
                            have c31b0 : (mgetD x135000_1 ((rd_T46 l0 x11_1).f4) false) = true := c31
                            clear c31
                            have H' := Aside0.mk H
                            clear H
                            have hnb32 := NB136_134.out
                            have hnc32 := NB134_136.out
                            have hcz33_0 : w7.cell? ⟨gb136, 0, none⟩ = some (.int .i64 0) := (blk_cell BK136.out 0).trans rfl
                            have hcz33_1 : w7.cell? ⟨gb136, 1, none⟩ = some (.bool false) := (blk_cell BK136.out 1).trans rfl
                            have hcz33_2 : w7.cell? ⟨gb136, 2, none⟩ = some (.string (⟨#[]⟩ : ByteArray)) := (blk_cell BK136.out 2).trans rfl
                            have hcz33_3 : w7.cell? ⟨gb136, 3, none⟩ = some (.string (⟨#[]⟩ : ByteArray)) := (blk_cell BK136.out 3).trans rfl
                            have hcz33_4 : w7.cell? ⟨gb136, 4, none⟩ = some (.int .i64 0) := (blk_cell BK136.out 4).trans rfl
                            have hcz33_5 : w7.cell? ⟨gb136, 5, none⟩ = some (.int .i64 0) := (blk_cell BK136.out 5).trans rfl
                            have hfz33_0 := blk_frozen BK136.out 0
                            have hfz33_1 := blk_frozen BK136.out 1
                            have hfz33_2 := blk_frozen BK136.out 2
                            have hfz33_3 := blk_frozen BK136.out 3
                            have hfz33_4 := blk_frozen BK136.out 4
                            have hfz33_5 := blk_frozen BK136.out 5
                            go_wp2_with (first | ((with_reducible refine gate_callee (f := 49) rfl ?_); refine goesL_ (some 18) rfl rfl Tryd.func49 (by kernel_rfl) rfl #[.int .i64 ((rd_T46 l0 x11_1).f0), .int .i64 0, .int .i64 9] rfl (by (try simp only [List.map_toArray, List.map_cons, List.map_nil]); first | done | rfl | (simp only [List.length_drop, List.length_take]; rfl)) ?_; (with_reducible refine (impl_in.calls ((rd_T46 l0 x11_1).f0) 0 9 true _ A10.out).mono ?_); rintro e w' ⟨rfl, ⟨nd, rfl⟩⟩; refine ⟨_, rfl, ?_⟩) | (go_at_call 52; (with_reducible refine (impl_isKey.calls ((rd_T46 l0 x11_1).f2) true _ A12.out).mono ?_); rintro e w34 ⟨rfl, hb⟩; have n0_ := Aside0.mk (blk_below (g := gb134) (o := mapObj (Value.int .i64) Value.bool x135000_1) (by (with_reducible repeat (first | refine blk_drewN ?_ _ | refine blk_drew ?_ | refine blk_alloc ?_ _)); refine obj_far ?_ NB134_136.out _; (with_reducible repeat (first | refine blk_drewN ?_ _ | refine blk_drew ?_ | refine blk_alloc ?_ _)); refine obj_far ?_ NB134_136.out _; (with_reducible repeat (first | refine blk_drewN ?_ _ | refine blk_drew ?_ | refine blk_alloc ?_ _)); refine obj_far ?_ NB134_136.out _; (with_reducible repeat (first | refine blk_drewN ?_ _ | refine blk_drew ?_ | refine blk_alloc ?_ _)); refine obj_far ?_ NB134_136.out _; (with_reducible repeat (first | refine blk_drewN ?_ _ | refine blk_drew ?_ | refine blk_alloc ?_ _)); refine obj_far ?_ NB134_136.out _; (with_reducible repeat (first | refine blk_drewN ?_ _ | refine blk_drew ?_ | refine blk_alloc ?_ _)); refine obj_far ?_ NB134_136.out _; (with_reducible repeat (first | refine blk_drewN ?_ _ | refine blk_drew ?_ | refine blk_alloc ?_ _)); exact BK134.out) hb); have n1_ := Aside0.mk (blk_below (g := gb136) (o := .cells #[.int .i64 ((rd_T46 l0 x11_1).f0), .bool ((rd_T46 l0 x11_1).f1), .string ((rd_T46 l0 x11_1).f2), .string ((rd_T46 l0 x11_1).f3), .int .i64 ((rd_T46 l0 x11_1).f4), .int .i64 ((rd_T46 l0 x11_1).f5)] 46 (0, 0)) (by (with_reducible repeat (first | refine blk_drewN ?_ _ | refine blk_drew ?_ | refine blk_alloc ?_ _)); refine blk_put (cs := #[.int .i64 ((rd_T46 l0 x11_1).f0), .bool ((rd_T46 l0 x11_1).f1), .string ((rd_T46 l0 x11_1).f2), .string ((rd_T46 l0 x11_1).f3), .int .i64 ((rd_T46 l0 x11_1).f4), .int .i64 0]) ?_ 5 _ rfl; (with_reducible repeat (first | refine blk_drewN ?_ _ | refine blk_drew ?_ | refine blk_alloc ?_ _)); refine blk_put (cs := #[.int .i64 ((rd_T46 l0 x11_1).f0), .bool ((rd_T46 l0 x11_1).f1), .string ((rd_T46 l0 x11_1).f2), .string ((rd_T46 l0 x11_1).f3), .int .i64 0, .int .i64 0]) ?_ 4 _ rfl; (with_reducible repeat (first | refine blk_drewN ?_ _ | refine blk_drew ?_ | refine blk_alloc ?_ _)); refine blk_put (cs := #[.int .i64 ((rd_T46 l0 x11_1).f0), .bool ((rd_T46 l0 x11_1).f1), .string ((rd_T46 l0 x11_1).f2), .string (⟨#[]⟩ : ByteArray), .int .i64 0, .int .i64 0]) ?_ 3 _ rfl; (with_reducible repeat (first | refine blk_drewN ?_ _ | refine blk_drew ?_ | refine blk_alloc ?_ _)); refine blk_put (cs := #[.int .i64 ((rd_T46 l0 x11_1).f0), .bool ((rd_T46 l0 x11_1).f1), .string (⟨#[]⟩ : ByteArray), .string (⟨#[]⟩ : ByteArray), .int .i64 0, .int .i64 0]) ?_ 2 _ rfl; (with_reducible repeat (first | refine blk_drewN ?_ _ | refine blk_drew ?_ | refine blk_alloc ?_ _)); refine blk_put (cs := #[.int .i64 ((rd_T46 l0 x11_1).f0), .bool false, .string (⟨#[]⟩ : ByteArray), .string (⟨#[]⟩ : ByteArray), .int .i64 0, .int .i64 0]) ?_ 1 _ rfl; (with_reducible repeat (first | refine blk_drewN ?_ _ | refine blk_drew ?_ | refine blk_alloc ?_ _)); refine blk_put (cs := #[.int .i64 0, .bool false, .string (⟨#[]⟩ : ByteArray), .string (⟨#[]⟩ : ByteArray), .int .i64 0, .int .i64 0]) ?_ 0 _ rfl; (with_reducible repeat (first | refine blk_drewN ?_ _ | refine blk_drew ?_ | refine blk_alloc ?_ _)); exact BK136.out) hb); have n2_ := Aside0.mk (below_step (by repeat (first | (with_reducible first | exact HB.out | apply below_alloc | apply pw_below_drewN | apply below_drew1 | refine below_set ?_ GE134.out | refine below_set ?_ GE136.out) | exact HB.out)) hb); clear BK134; clear BK136; clear HB; have BK134 := n0_; have BK136 := n1_; have HB := n2_; clear n0_ n1_ n2_; (try clear hb); (try clear hb2); (try clear hk); (try clear hi); have hcz35_0 : w34.cell? ⟨gb136, 0, none⟩ = some (.int .i64 ((rd_T46 l0 x11_1).f0)) := (blk_cell BK136.out 0).trans rfl; have hcz35_1 : w34.cell? ⟨gb136, 1, none⟩ = some (.bool ((rd_T46 l0 x11_1).f1)) := (blk_cell BK136.out 1).trans rfl; have hcz35_2 : w34.cell? ⟨gb136, 2, none⟩ = some (.string ((rd_T46 l0 x11_1).f2)) := (blk_cell BK136.out 2).trans rfl; have hcz35_3 : w34.cell? ⟨gb136, 3, none⟩ = some (.string ((rd_T46 l0 x11_1).f3)) := (blk_cell BK136.out 3).trans rfl; have hcz35_4 : w34.cell? ⟨gb136, 4, none⟩ = some (.int .i64 ((rd_T46 l0 x11_1).f4)) := (blk_cell BK136.out 4).trans rfl; have hcz35_5 : w34.cell? ⟨gb136, 5, none⟩ = some (.int .i64 ((rd_T46 l0 x11_1).f5)) := (blk_cell BK136.out 5).trans rfl; have hfz35_0 := blk_frozen BK136.out 0; have hfz35_1 := blk_frozen BK136.out 1; have hfz35_2 := blk_frozen BK136.out 2; have hfz35_3 := blk_frozen BK136.out 3; have hfz35_4 := blk_frozen BK136.out 4; have hfz35_5 := blk_frozen BK136.out 5) | (go_at_call 53; (with_reducible refine (impl_isValue.calls k1 ((rd_T46 l0 x11_1).f3) true _ A14.out).mono ?_); rintro e w' ⟨rfl, ⟨nd, rfl⟩⟩) | ((with_reducible refine gate_dst (N := 53) rfl ?_); (try (refine gate_guard (by rfl) ?_; dsimp only)); refine mget_event (ek := (Value.int .i64)) (ev := Value.bool) ?hg (N := 53) ?hd 65 3 4 (b := gb134) (m := x135000_1) ((rd_T46 l0 x11_1).f4) ?ho Tryd.underlying65 (mapKey_int Tryd.underlying3) false ?hz ?hb ?_; (case ho => exact ⟨_, _, rfl, rfl, rfl⟩); (case hd => rfl); (case hg => rfl); (case hz => exact fun _ => rfl); (case hb => exact (by (with_reducible repeat (first | refine blk_drewN ?_ _ | refine blk_drew ?_ | refine blk_alloc ?_ _)); exact BK134.out))))
                            go_meet
                            case rel => exact ⟨_, (true), (by first | rfl | (simp; done) | (simp [*]; done)), H', ⟨by have := HK1.out; first | omega | exact Nat.le_refl _⟩, ⟨by (with_reducible repeat (first | refine blk_drewN ?_ _ | refine blk_drew ?_ | refine blk_alloc ?_ _)); exact BK134.out⟩, ⟨by (with_reducible repeat (first | refine blk_drewN ?_ _ | refine blk_drew ?_ | refine blk_alloc ?_ _)); exact BK136.out⟩, ⟨by repeat (first | (with_reducible first | exact HB.out | apply below_alloc | apply pw_below_drewN | apply below_drew1 | refine below_set ?_ GE134.out | refine below_set ?_ GE136.out) | exact HB.out)⟩⟩
                          · rw [if_neg c31] at H
                            have c31b0 : (mgetD x135000_1 ((rd_T46 l0 x11_1).f4) false) = false := by simpa using c31
                            clear c31
                            have H' := Aside0.mk H
                            clear H
                            have hnb36 := NB136_134.out
                            have hnc36 := NB134_136.out
                            have hcz37_0 : w7.cell? ⟨gb136, 0, none⟩ = some (.int .i64 0) := (blk_cell BK136.out 0).trans rfl
                            have hcz37_1 : w7.cell? ⟨gb136, 1, none⟩ = some (.bool false) := (blk_cell BK136.out 1).trans rfl
                            have hcz37_2 : w7.cell? ⟨gb136, 2, none⟩ = some (.string (⟨#[]⟩ : ByteArray)) := (blk_cell BK136.out 2).trans rfl
                            have hcz37_3 : w7.cell? ⟨gb136, 3, none⟩ = some (.string (⟨#[]⟩ : ByteArray)) := (blk_cell BK136.out 3).trans rfl
                            have hcz37_4 : w7.cell? ⟨gb136, 4, none⟩ = some (.int .i64 0) := (blk_cell BK136.out 4).trans rfl
                            have hcz37_5 : w7.cell? ⟨gb136, 5, none⟩ = some (.int .i64 0) := (blk_cell BK136.out 5).trans rfl
                            have hfz37_0 := blk_frozen BK136.out 0
                            have hfz37_1 := blk_frozen BK136.out 1
                            have hfz37_2 := blk_frozen BK136.out 2
                            have hfz37_3 := blk_frozen BK136.out 3
                            have hfz37_4 := blk_frozen BK136.out 4
                            have hfz37_5 := blk_frozen BK136.out 5
                            go_wp2_with (first | ((with_reducible refine gate_callee (f := 49) rfl ?_); refine goesL_ (some 18) rfl rfl Tryd.func49 (by kernel_rfl) rfl #[.int .i64 ((rd_T46 l0 x11_1).f0), .int .i64 0, .int .i64 9] rfl (by (try simp only [List.map_toArray, List.map_cons, List.map_nil]); first | done | rfl | (simp only [List.length_drop, List.length_take]; rfl)) ?_; (with_reducible refine (impl_in.calls ((rd_T46 l0 x11_1).f0) 0 9 true _ A10.out).mono ?_); rintro e w' ⟨rfl, ⟨nd, rfl⟩⟩; refine ⟨_, rfl, ?_⟩) | (go_at_call 52; (with_reducible refine (impl_isKey.calls ((rd_T46 l0 x11_1).f2) true _ A12.out).mono ?_); rintro e w38 ⟨rfl, hb⟩; have n0_ := Aside0.mk (blk_below (g := gb134) (o := mapObj (Value.int .i64) Value.bool x135000_1) (by (with_reducible repeat (first | refine blk_drewN ?_ _ | refine blk_drew ?_ | refine blk_alloc ?_ _)); refine obj_far ?_ NB134_136.out _; (with_reducible repeat (first | refine blk_drewN ?_ _ | refine blk_drew ?_ | refine blk_alloc ?_ _)); refine obj_far ?_ NB134_136.out _; (with_reducible repeat (first | refine blk_drewN ?_ _ | refine blk_drew ?_ | refine blk_alloc ?_ _)); refine obj_far ?_ NB134_136.out _; (with_reducible repeat (first | refine blk_drewN ?_ _ | refine blk_drew ?_ | refine blk_alloc ?_ _)); refine obj_far ?_ NB134_136.out _; (with_reducible repeat (first | refine blk_drewN ?_ _ | refine blk_drew ?_ | refine blk_alloc ?_ _)); refine obj_far ?_ NB134_136.out _; (with_reducible repeat (first | refine blk_drewN ?_ _ | refine blk_drew ?_ | refine blk_alloc ?_ _)); refine obj_far ?_ NB134_136.out _; (with_reducible repeat (first | refine blk_drewN ?_ _ | refine blk_drew ?_ | refine blk_alloc ?_ _)); exact BK134.out) hb); have n1_ := Aside0.mk (blk_below (g := gb136) (o := .cells #[.int .i64 ((rd_T46 l0 x11_1).f0), .bool ((rd_T46 l0 x11_1).f1), .string ((rd_T46 l0 x11_1).f2), .string ((rd_T46 l0 x11_1).f3), .int .i64 ((rd_T46 l0 x11_1).f4), .int .i64 ((rd_T46 l0 x11_1).f5)] 46 (0, 0)) (by (with_reducible repeat (first | refine blk_drewN ?_ _ | refine blk_drew ?_ | refine blk_alloc ?_ _)); refine blk_put (cs := #[.int .i64 ((rd_T46 l0 x11_1).f0), .bool ((rd_T46 l0 x11_1).f1), .string ((rd_T46 l0 x11_1).f2), .string ((rd_T46 l0 x11_1).f3), .int .i64 ((rd_T46 l0 x11_1).f4), .int .i64 0]) ?_ 5 _ rfl; (with_reducible repeat (first | refine blk_drewN ?_ _ | refine blk_drew ?_ | refine blk_alloc ?_ _)); refine blk_put (cs := #[.int .i64 ((rd_T46 l0 x11_1).f0), .bool ((rd_T46 l0 x11_1).f1), .string ((rd_T46 l0 x11_1).f2), .string ((rd_T46 l0 x11_1).f3), .int .i64 0, .int .i64 0]) ?_ 4 _ rfl; (with_reducible repeat (first | refine blk_drewN ?_ _ | refine blk_drew ?_ | refine blk_alloc ?_ _)); refine blk_put (cs := #[.int .i64 ((rd_T46 l0 x11_1).f0), .bool ((rd_T46 l0 x11_1).f1), .string ((rd_T46 l0 x11_1).f2), .string (⟨#[]⟩ : ByteArray), .int .i64 0, .int .i64 0]) ?_ 3 _ rfl; (with_reducible repeat (first | refine blk_drewN ?_ _ | refine blk_drew ?_ | refine blk_alloc ?_ _)); refine blk_put (cs := #[.int .i64 ((rd_T46 l0 x11_1).f0), .bool ((rd_T46 l0 x11_1).f1), .string (⟨#[]⟩ : ByteArray), .string (⟨#[]⟩ : ByteArray), .int .i64 0, .int .i64 0]) ?_ 2 _ rfl; (with_reducible repeat (first | refine blk_drewN ?_ _ | refine blk_drew ?_ | refine blk_alloc ?_ _)); refine blk_put (cs := #[.int .i64 ((rd_T46 l0 x11_1).f0), .bool false, .string (⟨#[]⟩ : ByteArray), .string (⟨#[]⟩ : ByteArray), .int .i64 0, .int .i64 0]) ?_ 1 _ rfl; (with_reducible repeat (first | refine blk_drewN ?_ _ | refine blk_drew ?_ | refine blk_alloc ?_ _)); refine blk_put (cs := #[.int .i64 0, .bool false, .string (⟨#[]⟩ : ByteArray), .string (⟨#[]⟩ : ByteArray), .int .i64 0, .int .i64 0]) ?_ 0 _ rfl; (with_reducible repeat (first | refine blk_drewN ?_ _ | refine blk_drew ?_ | refine blk_alloc ?_ _)); exact BK136.out) hb); have n2_ := Aside0.mk (below_step (by repeat (first | (with_reducible first | exact HB.out | apply below_alloc | apply pw_below_drewN | apply below_drew1 | refine below_set ?_ GE134.out | refine below_set ?_ GE136.out) | exact HB.out)) hb); clear BK134; clear BK136; clear HB; have BK134 := n0_; have BK136 := n1_; have HB := n2_; clear n0_ n1_ n2_; (try clear hb); (try clear hb2); (try clear hk); (try clear hi); have hcz39_0 : w38.cell? ⟨gb136, 0, none⟩ = some (.int .i64 ((rd_T46 l0 x11_1).f0)) := (blk_cell BK136.out 0).trans rfl; have hcz39_1 : w38.cell? ⟨gb136, 1, none⟩ = some (.bool ((rd_T46 l0 x11_1).f1)) := (blk_cell BK136.out 1).trans rfl; have hcz39_2 : w38.cell? ⟨gb136, 2, none⟩ = some (.string ((rd_T46 l0 x11_1).f2)) := (blk_cell BK136.out 2).trans rfl; have hcz39_3 : w38.cell? ⟨gb136, 3, none⟩ = some (.string ((rd_T46 l0 x11_1).f3)) := (blk_cell BK136.out 3).trans rfl; have hcz39_4 : w38.cell? ⟨gb136, 4, none⟩ = some (.int .i64 ((rd_T46 l0 x11_1).f4)) := (blk_cell BK136.out 4).trans rfl; have hcz39_5 : w38.cell? ⟨gb136, 5, none⟩ = some (.int .i64 ((rd_T46 l0 x11_1).f5)) := (blk_cell BK136.out 5).trans rfl; have hfz39_0 := blk_frozen BK136.out 0; have hfz39_1 := blk_frozen BK136.out 1; have hfz39_2 := blk_frozen BK136.out 2; have hfz39_3 := blk_frozen BK136.out 3; have hfz39_4 := blk_frozen BK136.out 4; have hfz39_5 := blk_frozen BK136.out 5) | (go_at_call 53; (with_reducible refine (impl_isValue.calls k1 ((rd_T46 l0 x11_1).f3) true _ A14.out).mono ?_); rintro e w' ⟨rfl, ⟨nd, rfl⟩⟩) | ((with_reducible refine gate_dst (N := 53) rfl ?_); (try (refine gate_guard (by rfl) ?_; dsimp only)); refine mget_event (ek := (Value.int .i64)) (ev := Value.bool) ?hg (N := 53) ?hd 65 3 4 (b := gb134) (m := x135000_1) ((rd_T46 l0 x11_1).f4) ?ho Tryd.underlying65 (mapKey_int Tryd.underlying3) false ?hz ?hb ?_; (case ho => exact ⟨_, _, rfl, rfl, rfl⟩); (case hd => rfl); (case hg => rfl); (case hz => exact fun _ => rfl); (case hb => exact (by (with_reducible repeat (first | refine blk_drewN ?_ _ | refine blk_drew ?_ | refine blk_alloc ?_ _)); exact BK134.out))) | ((with_reducible refine gate_dst (N := 59) rfl ?_); (try (refine gate_guard (by rfl) ?_; dsimp only)); refine mget_event (ek := (Value.int .i64)) (ev := Value.bool) ?hg (N := 59) ?hd 65 3 4 (b := gb134) (m := x135000_1) ((rd_T46 l0 x11_1).f5) ?ho Tryd.underlying65 (mapKey_int Tryd.underlying3) false ?hz ?hb ?_; (case ho => exact ⟨_, _, rfl, rfl, rfl⟩); (case hd => rfl); (case hg => rfl); (case hz => exact fun _ => rfl); (case hb => exact (by (with_reducible repeat (first | refine blk_drewN ?_ _ | refine blk_drew ?_ | refine blk_alloc ?_ _)); exact BK134.out))))
                            go_meet
                            case rel => exact ⟨_, (mgetD x135000_1 ((rd_T46 l0 x11_1).f5) false), (by first | rfl | (simp; done) | (simp [*]; done)), H', ⟨by have := HK1.out; first | omega | exact Nat.le_refl _⟩, ⟨by (with_reducible repeat (first | refine blk_drewN ?_ _ | refine blk_drew ?_ | refine blk_alloc ?_ _)); exact BK134.out⟩, ⟨by (with_reducible repeat (first | refine blk_drewN ?_ _ | refine blk_drew ?_ | refine blk_alloc ?_ _)); exact BK136.out⟩, ⟨by repeat (first | (with_reducible first | exact HB.out | apply below_alloc | apply pw_below_drewN | apply below_drew1 | refine below_set ?_ GE134.out | refine below_set ?_ GE136.out) | exact HB.out)⟩⟩
                  · replace c15 := Bool.eq_false_iff.mpr c15
                    subst c15
                    have H1 : (impl_areCalls.j1 k1 l0 x11_1 l0 (l0.length : Int) x11_1 true x135000_1 ((rd_T46 l0 x11_1).f0) ((rd_T46 l0 x11_1).f1) ((rd_T46 l0 x11_1).f2) ((rd_T46 l0 x11_1).f3) ((rd_T46 l0 x11_1).f4) ((rd_T46 l0 x11_1).f5)) = some r := by rw [if_neg (show ¬ (false = true) by decide)] at H; exact H
                    clear H
                    have H := H1
                    clear H1
                    have H' := Aside0.mk H
                    clear H
                    have hnb40 := NB136_134.out
                    have hnc40 := NB134_136.out
                    have hcz41_0 : w7.cell? ⟨gb136, 0, none⟩ = some (.int .i64 0) := (blk_cell BK136.out 0).trans rfl
                    have hcz41_1 : w7.cell? ⟨gb136, 1, none⟩ = some (.bool false) := (blk_cell BK136.out 1).trans rfl
                    have hcz41_2 : w7.cell? ⟨gb136, 2, none⟩ = some (.string (⟨#[]⟩ : ByteArray)) := (blk_cell BK136.out 2).trans rfl
                    have hcz41_3 : w7.cell? ⟨gb136, 3, none⟩ = some (.string (⟨#[]⟩ : ByteArray)) := (blk_cell BK136.out 3).trans rfl
                    have hcz41_4 : w7.cell? ⟨gb136, 4, none⟩ = some (.int .i64 0) := (blk_cell BK136.out 4).trans rfl
                    have hcz41_5 : w7.cell? ⟨gb136, 5, none⟩ = some (.int .i64 0) := (blk_cell BK136.out 5).trans rfl
                    have hfz41_0 := blk_frozen BK136.out 0
                    have hfz41_1 := blk_frozen BK136.out 1
                    have hfz41_2 := blk_frozen BK136.out 2
                    have hfz41_3 := blk_frozen BK136.out 3
                    have hfz41_4 := blk_frozen BK136.out 4
                    have hfz41_5 := blk_frozen BK136.out 5
                    go_wp2_with (first | ((with_reducible refine gate_callee (f := 49) rfl ?_); refine goesL_ (some 18) rfl rfl Tryd.func49 (by kernel_rfl) rfl #[.int .i64 ((rd_T46 l0 x11_1).f0), .int .i64 0, .int .i64 9] rfl (by (try simp only [List.map_toArray, List.map_cons, List.map_nil]); first | done | rfl | (simp only [List.length_drop, List.length_take]; rfl)) ?_; (with_reducible refine (impl_in.calls ((rd_T46 l0 x11_1).f0) 0 9 true _ A10.out).mono ?_); rintro e w' ⟨rfl, ⟨nd, rfl⟩⟩; refine ⟨_, rfl, ?_⟩) | (go_at_call 52; (with_reducible refine (impl_isKey.calls ((rd_T46 l0 x11_1).f2) true _ A12.out).mono ?_); rintro e w42 ⟨rfl, hb⟩; have n0_ := Aside0.mk (blk_below (g := gb134) (o := mapObj (Value.int .i64) Value.bool x135000_1) (by (with_reducible repeat (first | refine blk_drewN ?_ _ | refine blk_drew ?_ | refine blk_alloc ?_ _)); refine obj_far ?_ NB134_136.out _; (with_reducible repeat (first | refine blk_drewN ?_ _ | refine blk_drew ?_ | refine blk_alloc ?_ _)); refine obj_far ?_ NB134_136.out _; (with_reducible repeat (first | refine blk_drewN ?_ _ | refine blk_drew ?_ | refine blk_alloc ?_ _)); refine obj_far ?_ NB134_136.out _; (with_reducible repeat (first | refine blk_drewN ?_ _ | refine blk_drew ?_ | refine blk_alloc ?_ _)); refine obj_far ?_ NB134_136.out _; (with_reducible repeat (first | refine blk_drewN ?_ _ | refine blk_drew ?_ | refine blk_alloc ?_ _)); refine obj_far ?_ NB134_136.out _; (with_reducible repeat (first | refine blk_drewN ?_ _ | refine blk_drew ?_ | refine blk_alloc ?_ _)); refine obj_far ?_ NB134_136.out _; (with_reducible repeat (first | refine blk_drewN ?_ _ | refine blk_drew ?_ | refine blk_alloc ?_ _)); exact BK134.out) hb); have n1_ := Aside0.mk (blk_below (g := gb136) (o := .cells #[.int .i64 ((rd_T46 l0 x11_1).f0), .bool ((rd_T46 l0 x11_1).f1), .string ((rd_T46 l0 x11_1).f2), .string ((rd_T46 l0 x11_1).f3), .int .i64 ((rd_T46 l0 x11_1).f4), .int .i64 ((rd_T46 l0 x11_1).f5)] 46 (0, 0)) (by (with_reducible repeat (first | refine blk_drewN ?_ _ | refine blk_drew ?_ | refine blk_alloc ?_ _)); refine blk_put (cs := #[.int .i64 ((rd_T46 l0 x11_1).f0), .bool ((rd_T46 l0 x11_1).f1), .string ((rd_T46 l0 x11_1).f2), .string ((rd_T46 l0 x11_1).f3), .int .i64 ((rd_T46 l0 x11_1).f4), .int .i64 0]) ?_ 5 _ rfl; (with_reducible repeat (first | refine blk_drewN ?_ _ | refine blk_drew ?_ | refine blk_alloc ?_ _)); refine blk_put (cs := #[.int .i64 ((rd_T46 l0 x11_1).f0), .bool ((rd_T46 l0 x11_1).f1), .string ((rd_T46 l0 x11_1).f2), .string ((rd_T46 l0 x11_1).f3), .int .i64 0, .int .i64 0]) ?_ 4 _ rfl; (with_reducible repeat (first | refine blk_drewN ?_ _ | refine blk_drew ?_ | refine blk_alloc ?_ _)); refine blk_put (cs := #[.int .i64 ((rd_T46 l0 x11_1).f0), .bool ((rd_T46 l0 x11_1).f1), .string ((rd_T46 l0 x11_1).f2), .string (⟨#[]⟩ : ByteArray), .int .i64 0, .int .i64 0]) ?_ 3 _ rfl; (with_reducible repeat (first | refine blk_drewN ?_ _ | refine blk_drew ?_ | refine blk_alloc ?_ _)); refine blk_put (cs := #[.int .i64 ((rd_T46 l0 x11_1).f0), .bool ((rd_T46 l0 x11_1).f1), .string (⟨#[]⟩ : ByteArray), .string (⟨#[]⟩ : ByteArray), .int .i64 0, .int .i64 0]) ?_ 2 _ rfl; (with_reducible repeat (first | refine blk_drewN ?_ _ | refine blk_drew ?_ | refine blk_alloc ?_ _)); refine blk_put (cs := #[.int .i64 ((rd_T46 l0 x11_1).f0), .bool false, .string (⟨#[]⟩ : ByteArray), .string (⟨#[]⟩ : ByteArray), .int .i64 0, .int .i64 0]) ?_ 1 _ rfl; (with_reducible repeat (first | refine blk_drewN ?_ _ | refine blk_drew ?_ | refine blk_alloc ?_ _)); refine blk_put (cs := #[.int .i64 0, .bool false, .string (⟨#[]⟩ : ByteArray), .string (⟨#[]⟩ : ByteArray), .int .i64 0, .int .i64 0]) ?_ 0 _ rfl; (with_reducible repeat (first | refine blk_drewN ?_ _ | refine blk_drew ?_ | refine blk_alloc ?_ _)); exact BK136.out) hb); have n2_ := Aside0.mk (below_step (by repeat (first | (with_reducible first | exact HB.out | apply below_alloc | apply pw_below_drewN | apply below_drew1 | refine below_set ?_ GE134.out | refine below_set ?_ GE136.out) | exact HB.out)) hb); clear BK134; clear BK136; clear HB; have BK134 := n0_; have BK136 := n1_; have HB := n2_; clear n0_ n1_ n2_; (try clear hb); (try clear hb2); (try clear hk); (try clear hi); have hcz43_0 : w42.cell? ⟨gb136, 0, none⟩ = some (.int .i64 ((rd_T46 l0 x11_1).f0)) := (blk_cell BK136.out 0).trans rfl; have hcz43_1 : w42.cell? ⟨gb136, 1, none⟩ = some (.bool ((rd_T46 l0 x11_1).f1)) := (blk_cell BK136.out 1).trans rfl; have hcz43_2 : w42.cell? ⟨gb136, 2, none⟩ = some (.string ((rd_T46 l0 x11_1).f2)) := (blk_cell BK136.out 2).trans rfl; have hcz43_3 : w42.cell? ⟨gb136, 3, none⟩ = some (.string ((rd_T46 l0 x11_1).f3)) := (blk_cell BK136.out 3).trans rfl; have hcz43_4 : w42.cell? ⟨gb136, 4, none⟩ = some (.int .i64 ((rd_T46 l0 x11_1).f4)) := (blk_cell BK136.out 4).trans rfl; have hcz43_5 : w42.cell? ⟨gb136, 5, none⟩ = some (.int .i64 ((rd_T46 l0 x11_1).f5)) := (blk_cell BK136.out 5).trans rfl; have hfz43_0 := blk_frozen BK136.out 0; have hfz43_1 := blk_frozen BK136.out 1; have hfz43_2 := blk_frozen BK136.out 2; have hfz43_3 := blk_frozen BK136.out 3; have hfz43_4 := blk_frozen BK136.out 4; have hfz43_5 := blk_frozen BK136.out 5) | (go_at_call 53; (with_reducible refine (impl_isValue.calls k1 ((rd_T46 l0 x11_1).f3) false _ A14.out).mono ?_); rintro e w' ⟨rfl, ⟨nd, rfl⟩⟩))
                    go_meet
                    case rel => exact ⟨_, (true), (by first | rfl | (simp; done) | (simp [*]; done)), H', ⟨by have := HK1.out; first | omega | exact Nat.le_refl _⟩, ⟨by (with_reducible repeat (first | refine blk_drewN ?_ _ | refine blk_drew ?_ | refine blk_alloc ?_ _)); exact BK134.out⟩, ⟨by (with_reducible repeat (first | refine blk_drewN ?_ _ | refine blk_drew ?_ | refine blk_alloc ?_ _)); exact BK136.out⟩, ⟨by repeat (first | (with_reducible first | exact HB.out | apply below_alloc | apply pw_below_drewN | apply below_drew1 | refine below_set ?_ GE134.out | refine below_set ?_ GE136.out) | exact HB.out)⟩⟩
                · replace c13 := Bool.eq_false_iff.mpr c13
                  subst c13
                  have H1 : (impl_areCalls.j1 k1 l0 x11_1 l0 (l0.length : Int) x11_1 true x135000_1 ((rd_T46 l0 x11_1).f0) ((rd_T46 l0 x11_1).f1) ((rd_T46 l0 x11_1).f2) ((rd_T46 l0 x11_1).f3) ((rd_T46 l0 x11_1).f4) ((rd_T46 l0 x11_1).f5)) = some r := by rw [if_neg (show ¬ (false = true) by decide)] at H; exact H
                  clear H
                  have H := H1
                  clear H1
                  have H' := Aside0.mk H
                  clear H
                  have hnb44 := NB136_134.out
                  have hnc44 := NB134_136.out
                  have hcz45_0 : w7.cell? ⟨gb136, 0, none⟩ = some (.int .i64 0) := (blk_cell BK136.out 0).trans rfl
                  have hcz45_1 : w7.cell? ⟨gb136, 1, none⟩ = some (.bool false) := (blk_cell BK136.out 1).trans rfl
                  have hcz45_2 : w7.cell? ⟨gb136, 2, none⟩ = some (.string (⟨#[]⟩ : ByteArray)) := (blk_cell BK136.out 2).trans rfl
                  have hcz45_3 : w7.cell? ⟨gb136, 3, none⟩ = some (.string (⟨#[]⟩ : ByteArray)) := (blk_cell BK136.out 3).trans rfl
                  have hcz45_4 : w7.cell? ⟨gb136, 4, none⟩ = some (.int .i64 0) := (blk_cell BK136.out 4).trans rfl
                  have hcz45_5 : w7.cell? ⟨gb136, 5, none⟩ = some (.int .i64 0) := (blk_cell BK136.out 5).trans rfl
                  have hfz45_0 := blk_frozen BK136.out 0
                  have hfz45_1 := blk_frozen BK136.out 1
                  have hfz45_2 := blk_frozen BK136.out 2
                  have hfz45_3 := blk_frozen BK136.out 3
                  have hfz45_4 := blk_frozen BK136.out 4
                  have hfz45_5 := blk_frozen BK136.out 5
                  go_wp2_with (first | ((with_reducible refine gate_callee (f := 49) rfl ?_); refine goesL_ (some 18) rfl rfl Tryd.func49 (by kernel_rfl) rfl #[.int .i64 ((rd_T46 l0 x11_1).f0), .int .i64 0, .int .i64 9] rfl (by (try simp only [List.map_toArray, List.map_cons, List.map_nil]); first | done | rfl | (simp only [List.length_drop, List.length_take]; rfl)) ?_; (with_reducible refine (impl_in.calls ((rd_T46 l0 x11_1).f0) 0 9 true _ A10.out).mono ?_); rintro e w' ⟨rfl, ⟨nd, rfl⟩⟩; refine ⟨_, rfl, ?_⟩) | (go_at_call 52; (with_reducible refine (impl_isKey.calls ((rd_T46 l0 x11_1).f2) false _ A12.out).mono ?_); rintro e w46 ⟨rfl, hb⟩; have n0_ := Aside0.mk (blk_below (g := gb134) (o := mapObj (Value.int .i64) Value.bool x135000_1) (by (with_reducible repeat (first | refine blk_drewN ?_ _ | refine blk_drew ?_ | refine blk_alloc ?_ _)); refine obj_far ?_ NB134_136.out _; (with_reducible repeat (first | refine blk_drewN ?_ _ | refine blk_drew ?_ | refine blk_alloc ?_ _)); refine obj_far ?_ NB134_136.out _; (with_reducible repeat (first | refine blk_drewN ?_ _ | refine blk_drew ?_ | refine blk_alloc ?_ _)); refine obj_far ?_ NB134_136.out _; (with_reducible repeat (first | refine blk_drewN ?_ _ | refine blk_drew ?_ | refine blk_alloc ?_ _)); refine obj_far ?_ NB134_136.out _; (with_reducible repeat (first | refine blk_drewN ?_ _ | refine blk_drew ?_ | refine blk_alloc ?_ _)); refine obj_far ?_ NB134_136.out _; (with_reducible repeat (first | refine blk_drewN ?_ _ | refine blk_drew ?_ | refine blk_alloc ?_ _)); refine obj_far ?_ NB134_136.out _; (with_reducible repeat (first | refine blk_drewN ?_ _ | refine blk_drew ?_ | refine blk_alloc ?_ _)); exact BK134.out) hb); have n1_ := Aside0.mk (blk_below (g := gb136) (o := .cells #[.int .i64 ((rd_T46 l0 x11_1).f0), .bool ((rd_T46 l0 x11_1).f1), .string ((rd_T46 l0 x11_1).f2), .string ((rd_T46 l0 x11_1).f3), .int .i64 ((rd_T46 l0 x11_1).f4), .int .i64 ((rd_T46 l0 x11_1).f5)] 46 (0, 0)) (by (with_reducible repeat (first | refine blk_drewN ?_ _ | refine blk_drew ?_ | refine blk_alloc ?_ _)); refine blk_put (cs := #[.int .i64 ((rd_T46 l0 x11_1).f0), .bool ((rd_T46 l0 x11_1).f1), .string ((rd_T46 l0 x11_1).f2), .string ((rd_T46 l0 x11_1).f3), .int .i64 ((rd_T46 l0 x11_1).f4), .int .i64 0]) ?_ 5 _ rfl; (with_reducible repeat (first | refine blk_drewN ?_ _ | refine blk_drew ?_ | refine blk_alloc ?_ _)); refine blk_put (cs := #[.int .i64 ((rd_T46 l0 x11_1).f0), .bool ((rd_T46 l0 x11_1).f1), .string ((rd_T46 l0 x11_1).f2), .string ((rd_T46 l0 x11_1).f3), .int .i64 0, .int .i64 0]) ?_ 4 _ rfl; (with_reducible repeat (first | refine blk_drewN ?_ _ | refine blk_drew ?_ | refine blk_alloc ?_ _)); refine blk_put (cs := #[.int .i64 ((rd_T46 l0 x11_1).f0), .bool ((rd_T46 l0 x11_1).f1), .string ((rd_T46 l0 x11_1).f2), .string (⟨#[]⟩ : ByteArray), .int .i64 0, .int .i64 0]) ?_ 3 _ rfl; (with_reducible repeat (first | refine blk_drewN ?_ _ | refine blk_drew ?_ | refine blk_alloc ?_ _)); refine blk_put (cs := #[.int .i64 ((rd_T46 l0 x11_1).f0), .bool ((rd_T46 l0 x11_1).f1), .string (⟨#[]⟩ : ByteArray), .string (⟨#[]⟩ : ByteArray), .int .i64 0, .int .i64 0]) ?_ 2 _ rfl; (with_reducible repeat (first | refine blk_drewN ?_ _ | refine blk_drew ?_ | refine blk_alloc ?_ _)); refine blk_put (cs := #[.int .i64 ((rd_T46 l0 x11_1).f0), .bool false, .string (⟨#[]⟩ : ByteArray), .string (⟨#[]⟩ : ByteArray), .int .i64 0, .int .i64 0]) ?_ 1 _ rfl; (with_reducible repeat (first | refine blk_drewN ?_ _ | refine blk_drew ?_ | refine blk_alloc ?_ _)); refine blk_put (cs := #[.int .i64 0, .bool false, .string (⟨#[]⟩ : ByteArray), .string (⟨#[]⟩ : ByteArray), .int .i64 0, .int .i64 0]) ?_ 0 _ rfl; (with_reducible repeat (first | refine blk_drewN ?_ _ | refine blk_drew ?_ | refine blk_alloc ?_ _)); exact BK136.out) hb); have n2_ := Aside0.mk (below_step (by repeat (first | (with_reducible first | exact HB.out | apply below_alloc | apply pw_below_drewN | apply below_drew1 | refine below_set ?_ GE134.out | refine below_set ?_ GE136.out) | exact HB.out)) hb); clear BK134; clear BK136; clear HB; have BK134 := n0_; have BK136 := n1_; have HB := n2_; clear n0_ n1_ n2_; (try clear hb); (try clear hb2); (try clear hk); (try clear hi)))
                  go_meet
                  case rel => exact ⟨_, (true), (by first | rfl | (simp; done) | (simp [*]; done)), H', ⟨by have := HK1.out; first | omega | exact Nat.le_refl _⟩, ⟨by (with_reducible repeat (first | refine blk_drewN ?_ _ | refine blk_drew ?_ | refine blk_alloc ?_ _)); exact BK134.out⟩, ⟨by (with_reducible repeat (first | refine blk_drewN ?_ _ | refine blk_drew ?_ | refine blk_alloc ?_ _)); exact BK136.out⟩, ⟨by repeat (first | (with_reducible first | exact HB.out | apply below_alloc | apply pw_below_drewN | apply below_drew1 | refine below_set ?_ GE134.out | refine below_set ?_ GE136.out) | exact HB.out)⟩⟩
              · replace c11 := Bool.eq_false_iff.mpr c11
                subst c11
                have H1 : (impl_areCalls.j1 k1 l0 x11_1 l0 (l0.length : Int) x11_1 true x135000_1 ((rd_T46 l0 x11_1).f0) ((rd_T46 l0 x11_1).f1) ((rd_T46 l0 x11_1).f2) ((rd_T46 l0 x11_1).f3) ((rd_T46 l0 x11_1).f4) ((rd_T46 l0 x11_1).f5)) = some r := by rw [if_neg (show ¬ (false = true) by decide)] at H; exact H
                clear H
                have H := H1
                clear H1
                have H' := Aside0.mk H
                clear H
                have hnb47 := NB136_134.out
                have hnc47 := NB134_136.out
                have hcz48_0 : w7.cell? ⟨gb136, 0, none⟩ = some (.int .i64 0) := (blk_cell BK136.out 0).trans rfl
                have hcz48_1 : w7.cell? ⟨gb136, 1, none⟩ = some (.bool false) := (blk_cell BK136.out 1).trans rfl
                have hcz48_2 : w7.cell? ⟨gb136, 2, none⟩ = some (.string (⟨#[]⟩ : ByteArray)) := (blk_cell BK136.out 2).trans rfl
                have hcz48_3 : w7.cell? ⟨gb136, 3, none⟩ = some (.string (⟨#[]⟩ : ByteArray)) := (blk_cell BK136.out 3).trans rfl
                have hcz48_4 : w7.cell? ⟨gb136, 4, none⟩ = some (.int .i64 0) := (blk_cell BK136.out 4).trans rfl
                have hcz48_5 : w7.cell? ⟨gb136, 5, none⟩ = some (.int .i64 0) := (blk_cell BK136.out 5).trans rfl
                have hfz48_0 := blk_frozen BK136.out 0
                have hfz48_1 := blk_frozen BK136.out 1
                have hfz48_2 := blk_frozen BK136.out 2
                have hfz48_3 := blk_frozen BK136.out 3
                have hfz48_4 := blk_frozen BK136.out 4
                have hfz48_5 := blk_frozen BK136.out 5
                go_wp2_with (first | ((with_reducible refine gate_callee (f := 49) rfl ?_); refine goesL_ (some 18) rfl rfl Tryd.func49 (by kernel_rfl) rfl #[.int .i64 ((rd_T46 l0 x11_1).f0), .int .i64 0, .int .i64 9] rfl (by (try simp only [List.map_toArray, List.map_cons, List.map_nil]); first | done | rfl | (simp only [List.length_drop, List.length_take]; rfl)) ?_; (with_reducible refine (impl_in.calls ((rd_T46 l0 x11_1).f0) 0 9 false _ A10.out).mono ?_); rintro e w' ⟨rfl, ⟨nd, rfl⟩⟩; refine ⟨_, rfl, ?_⟩))
                go_meet
                case rel => exact ⟨_, (true), (by first | rfl | (simp; done) | (simp [*]; done)), H', ⟨by have := HK1.out; first | omega | exact Nat.le_refl _⟩, ⟨by (with_reducible repeat (first | refine blk_drewN ?_ _ | refine blk_drew ?_ | refine blk_alloc ?_ _)); refine obj_far ?_ NB134_136.out _; (with_reducible repeat (first | refine blk_drewN ?_ _ | refine blk_drew ?_ | refine blk_alloc ?_ _)); refine obj_far ?_ NB134_136.out _; (with_reducible repeat (first | refine blk_drewN ?_ _ | refine blk_drew ?_ | refine blk_alloc ?_ _)); refine obj_far ?_ NB134_136.out _; (with_reducible repeat (first | refine blk_drewN ?_ _ | refine blk_drew ?_ | refine blk_alloc ?_ _)); refine obj_far ?_ NB134_136.out _; (with_reducible repeat (first | refine blk_drewN ?_ _ | refine blk_drew ?_ | refine blk_alloc ?_ _)); refine obj_far ?_ NB134_136.out _; (with_reducible repeat (first | refine blk_drewN ?_ _ | refine blk_drew ?_ | refine blk_alloc ?_ _)); refine obj_far ?_ NB134_136.out _; (with_reducible repeat (first | refine blk_drewN ?_ _ | refine blk_drew ?_ | refine blk_alloc ?_ _)); exact BK134.out⟩, ⟨by (with_reducible repeat (first | refine blk_drewN ?_ _ | refine blk_drew ?_ | refine blk_alloc ?_ _)); refine blk_put (cs := #[.int .i64 ((rd_T46 l0 x11_1).f0), .bool ((rd_T46 l0 x11_1).f1), .string ((rd_T46 l0 x11_1).f2), .string ((rd_T46 l0 x11_1).f3), .int .i64 ((rd_T46 l0 x11_1).f4), .int .i64 0]) ?_ 5 _ rfl; (with_reducible repeat (first | refine blk_drewN ?_ _ | refine blk_drew ?_ | refine blk_alloc ?_ _)); refine blk_put (cs := #[.int .i64 ((rd_T46 l0 x11_1).f0), .bool ((rd_T46 l0 x11_1).f1), .string ((rd_T46 l0 x11_1).f2), .string ((rd_T46 l0 x11_1).f3), .int .i64 0, .int .i64 0]) ?_ 4 _ rfl; (with_reducible repeat (first | refine blk_drewN ?_ _ | refine blk_drew ?_ | refine blk_alloc ?_ _)); refine blk_put (cs := #[.int .i64 ((rd_T46 l0 x11_1).f0), .bool ((rd_T46 l0 x11_1).f1), .string ((rd_T46 l0 x11_1).f2), .string (⟨#[]⟩ : ByteArray), .int .i64 0, .int .i64 0]) ?_ 3 _ rfl; (with_reducible repeat (first | refine blk_drewN ?_ _ | refine blk_drew ?_ | refine blk_alloc ?_ _)); refine blk_put (cs := #[.int .i64 ((rd_T46 l0 x11_1).f0), .bool ((rd_T46 l0 x11_1).f1), .string (⟨#[]⟩ : ByteArray), .string (⟨#[]⟩ : ByteArray), .int .i64 0, .int .i64 0]) ?_ 2 _ rfl; (with_reducible repeat (first | refine blk_drewN ?_ _ | refine blk_drew ?_ | refine blk_alloc ?_ _)); refine blk_put (cs := #[.int .i64 ((rd_T46 l0 x11_1).f0), .bool false, .string (⟨#[]⟩ : ByteArray), .string (⟨#[]⟩ : ByteArray), .int .i64 0, .int .i64 0]) ?_ 1 _ rfl; (with_reducible repeat (first | refine blk_drewN ?_ _ | refine blk_drew ?_ | refine blk_alloc ?_ _)); refine blk_put (cs := #[.int .i64 0, .bool false, .string (⟨#[]⟩ : ByteArray), .string (⟨#[]⟩ : ByteArray), .int .i64 0, .int .i64 0]) ?_ 0 _ rfl; (with_reducible repeat (first | refine blk_drewN ?_ _ | refine blk_drew ?_ | refine blk_alloc ?_ _)); exact BK136.out⟩, ⟨by repeat (first | (with_reducible first | exact HB.out | apply below_alloc | apply pw_below_drewN | apply below_drew1 | refine below_set ?_ GE134.out | refine below_set ?_ GE136.out) | exact HB.out)⟩⟩
            case rest =>
              clear HC6
              try clear c1
              try clear p1
              try clear q1
              try clear hx1
              try clear c2
              try clear p2
              try clear c3
              try clear c3b0
              try clear c4
              try clear c4b0
              try clear c5
              try clear c5b0
              try clear c8
              try clear c11
              try clear c13
              try clear p13
              try clear q13
              try clear hx13
              try clear c15
              try clear c16
              try clear c16b0
              try clear c17
              try clear c21
              try clear c21b0
              try clear c22
              try clear c26
              try clear c26b0
              try clear c27
              try clear c31
              try clear c31b0
              try clear c32
              try clear c36
              try clear c40
              try clear c44
              try clear c47
              try clear hcz18_0
              try clear hcz18_1
              try clear hcz18_2
              try clear hcz18_3
              try clear hcz18_4
              try clear hcz18_5
              try clear hcz20_0
              try clear hcz20_1
              try clear hcz20_2
              try clear hcz20_3
              try clear hcz20_4
              try clear hcz20_5
              try clear hcz23_0
              try clear hcz23_1
              try clear hcz23_2
              try clear hcz23_3
              try clear hcz23_4
              try clear hcz23_5
              try clear hcz25_0
              try clear hcz25_1
              try clear hcz25_2
              try clear hcz25_3
              try clear hcz25_4
              try clear hcz25_5
              try clear hcz28_0
              try clear hcz28_1
              try clear hcz28_2
              try clear hcz28_3
              try clear hcz28_4
              try clear hcz28_5
              try clear hcz30_0
              try clear hcz30_1
              try clear hcz30_2
              try clear hcz30_3
              try clear hcz30_4
              try clear hcz30_5
              try clear hcz33_0
              try clear hcz33_1
              try clear hcz33_2
              try clear hcz33_3
              try clear hcz33_4
              try clear hcz33_5
              try clear hcz35_0
              try clear hcz35_1
              try clear hcz35_2
              try clear hcz35_3
              try clear hcz35_4
              try clear hcz35_5
              try clear hcz37_0
              try clear hcz37_1
              try clear hcz37_2
              try clear hcz37_3
              try clear hcz37_4
              try clear hcz37_5
              try clear hcz39_0
              try clear hcz39_1
              try clear hcz39_2
              try clear hcz39_3
              try clear hcz39_4
              try clear hcz39_5
              try clear hcz41_0
              try clear hcz41_1
              try clear hcz41_2
              try clear hcz41_3
              try clear hcz41_4
              try clear hcz41_5
              try clear hcz43_0
              try clear hcz43_1
              try clear hcz43_2
              try clear hcz43_3
              try clear hcz43_4
              try clear hcz43_5
              try clear hcz45_0
              try clear hcz45_1
              try clear hcz45_2
              try clear hcz45_3
              try clear hcz45_4
              try clear hcz45_5
              try clear hcz48_0
              try clear hcz48_1
              try clear hcz48_2
              try clear hcz48_3
              try clear hcz48_4
              try clear hcz48_5
              try clear hcz9_0
              try clear hcz9_1
              try clear hcz9_2
              try clear hcz9_3
              try clear hcz9_4
              try clear hcz9_5
              try clear hfz18_0
              try clear hfz18_1
              try clear hfz18_2
              try clear hfz18_3
              try clear hfz18_4
              try clear hfz18_5
              try clear hfz20_0
              try clear hfz20_1
              try clear hfz20_2
              try clear hfz20_3
              try clear hfz20_4
              try clear hfz20_5
              try clear hfz23_0
              try clear hfz23_1
              try clear hfz23_2
              try clear hfz23_3
              try clear hfz23_4
              try clear hfz23_5
              try clear hfz25_0
              try clear hfz25_1
              try clear hfz25_2
              try clear hfz25_3
              try clear hfz25_4
              try clear hfz25_5
              try clear hfz28_0
              try clear hfz28_1
              try clear hfz28_2
              try clear hfz28_3
              try clear hfz28_4
              try clear hfz28_5
              try clear hfz30_0
              try clear hfz30_1
              try clear hfz30_2
              try clear hfz30_3
              try clear hfz30_4
              try clear hfz30_5
              try clear hfz33_0
              try clear hfz33_1
              try clear hfz33_2
              try clear hfz33_3
              try clear hfz33_4
              try clear hfz33_5
              try clear hfz35_0
              try clear hfz35_1
              try clear hfz35_2
              try clear hfz35_3
              try clear hfz35_4
              try clear hfz35_5
              try clear hfz37_0
              try clear hfz37_1
              try clear hfz37_2
              try clear hfz37_3
              try clear hfz37_4
              try clear hfz37_5
              try clear hfz39_0
              try clear hfz39_1
              try clear hfz39_2
              try clear hfz39_3
              try clear hfz39_4
              try clear hfz39_5
              try clear hfz41_0
              try clear hfz41_1
              try clear hfz41_2
              try clear hfz41_3
              try clear hfz41_4
              try clear hfz41_5
              try clear hfz43_0
              try clear hfz43_1
              try clear hfz43_2
              try clear hfz43_3
              try clear hfz43_4
              try clear hfz43_5
              try clear hfz45_0
              try clear hfz45_1
              try clear hfz45_2
              try clear hfz45_3
              try clear hfz45_4
              try clear hfz45_5
              try clear hfz48_0
              try clear hfz48_1
              try clear hfz48_2
              try clear hfz48_3
              try clear hfz48_4
              try clear hfz48_5
              try clear hfz9_0
              try clear hfz9_1
              try clear hfz9_2
              try clear hfz9_3
              try clear hfz9_4
              try clear hfz9_5
              try clear hx135_0
              try clear hx135_1
              try clear hx135_2
              try clear hx135_3
              try clear hx135_4
              try clear hx135_5
              try clear p135
              try clear p2
              try clear q135
              obtain ⟨kq, x60_5, rfl, HA, HJ5, BK134, BK136, HB⟩ := hcut
              cases kq with
              | zero => exact absurd HA.out (by simp [impl_areCalls.j1])
              | succ kj5 =>
                have H := HA.out
                clear HA
                simp only [impl_areCalls.j1] at H
                by_cases c49 : x60_5 = true
                · subst c49
                  have H1 : (some false) = some r := by rw [if_pos rfl] at H; exact H
                  clear H
                  have H := H1
                  clear H1
                  obtain rfl := Option.some.inj H
                  go_wp2
                  go_ret
                  exact ⟨by first | rfl | (simp [errW_none, errW_some] <;> rfl) | (simp [*, errW_none, errW_some] <;> rfl), by repeat (first | (with_reducible first | exact HB.out | apply below_alloc | apply pw_below_drewN | apply below_drew1 | refine below_set ?_ GE134.out | refine below_set ?_ GE136.out) | exact HB.out)⟩
                · replace c49 := Bool.eq_false_iff.mpr c49
                  subst c49
                  have H1 : (if 0 ≤ x11_1 then (if x11_1 ≤ (l0.length : Int) then ((some (l0.take (x11_1 : Int).toNat : List (S46))).bind fun y140 => (impl_areCalls.l1 kj5 l0 l0 (l0.length : Int) x11_1 y140 (y140.length : Int) 0 (mput (mput x135000_1 ((rd_T46 l0 x11_1).f4) true) ((rd_T46 l0 x11_1).f5) true) ((rd_T46 l0 x11_1).f0) ((rd_T46 l0 x11_1).f1) ((rd_T46 l0 x11_1).f2) ((rd_T46 l0 x11_1).f3) ((rd_T46 l0 x11_1).f4) ((rd_T46 l0 x11_1).f5))) else (none)) else (none)) = some r := by rw [if_neg (show ¬ (false = true) by decide)] at H; exact H
                  clear H
                  have H := H1
                  clear H1
                  by_cases c50 : 0 ≤ x11_1
                  · rw [if_pos c50] at H
                    have c50b0 := eq_true c50
                    have c50b1 : decide (0 ≤ x11_1) = true := decide_eq_true c50
                    clear c50
                    by_cases c51 : x11_1 ≤ (l0.length : Int)
                    · rw [if_pos c51] at H
                      have c51b0 := eq_true c51
                      have c51b1 : decide (x11_1 ≤ (l0.length : Int)) = true := decide_eq_true c51
                      clear c51
                      obtain ⟨y140, hy140⟩ : ∃ y_ : List (S46), y_ = (l0.take (x11_1 : Int).toNat) := ⟨_, rfl⟩
                      replace H : (impl_areCalls.l1 kj5 l0 l0 (l0.length : Int) x11_1 y140 (y140.length : Int) 0 (mput (mput x135000_1 ((rd_T46 l0 x11_1).f4) true) ((rd_T46 l0 x11_1).f5) true) ((rd_T46 l0 x11_1).f0) ((rd_T46 l0 x11_1).f1) ((rd_T46 l0 x11_1).f2) ((rd_T46 l0 x11_1).f3) ((rd_T46 l0 x11_1).f4) ((rd_T46 l0 x11_1).f5)) = some r := by first | (rw [hy140]; with_reducible exact H) | (have H2_ := (Option.bind_some _ _).symm.trans H; rw [hy140]; with_reducible exact H2_) | (have H2_ := (Option.bind_some _ _).symm.trans H; with_reducible exact H2_) | with_reducible exact H | (rw [hy140]; exact H) | exact H
                      have Ny140 := Aside0.mk hy140
                      clear hy140
                      have H' := Aside0.mk H
                      clear H
                      have hnb52 := NB136_134.out
                      have hnc52 := NB134_136.out
                      have hcz53_0 : wc.cell? ⟨gb136, 0, none⟩ = some (.int .i64 ((rd_T46 l0 x11_1).f0)) := (blk_cell BK136.out 0).trans rfl
                      have hcz53_1 : wc.cell? ⟨gb136, 1, none⟩ = some (.bool ((rd_T46 l0 x11_1).f1)) := (blk_cell BK136.out 1).trans rfl
                      have hcz53_2 : wc.cell? ⟨gb136, 2, none⟩ = some (.string ((rd_T46 l0 x11_1).f2)) := (blk_cell BK136.out 2).trans rfl
                      have hcz53_3 : wc.cell? ⟨gb136, 3, none⟩ = some (.string ((rd_T46 l0 x11_1).f3)) := (blk_cell BK136.out 3).trans rfl
                      have hcz53_4 : wc.cell? ⟨gb136, 4, none⟩ = some (.int .i64 ((rd_T46 l0 x11_1).f4)) := (blk_cell BK136.out 4).trans rfl
                      have hcz53_5 : wc.cell? ⟨gb136, 5, none⟩ = some (.int .i64 ((rd_T46 l0 x11_1).f5)) := (blk_cell BK136.out 5).trans rfl
                      have hfz53_0 := blk_frozen BK136.out 0
                      have hfz53_1 := blk_frozen BK136.out 1
                      have hfz53_2 := blk_frozen BK136.out 2
                      have hfz53_3 := blk_frozen BK136.out 3
                      have hfz53_4 := blk_frozen BK136.out 4
                      have hfz53_5 := blk_frozen BK136.out 5
                      go_wp2_with (first | ((with_reducible refine gate_mput (t := 65) ⟨_, _, _, rfl⟩ ?_); refine mput_event (ek := (Value.int .i64)) (ev := Value.bool) ?hg 65 3 4 (b := gb134) (m := x135000_1) ((rd_T46 l0 x11_1).f4) true ?ho Tryd.underlying65 (mapKey_int Tryd.underlying3) ?hn ?hb ?_; (case ho => exact ⟨_, _, _, rfl, rfl, rfl, rfl⟩); (case hg => rfl); (case hn => rfl); (case hb => exact (by (with_reducible repeat (first | refine blk_drewN ?_ _ | refine blk_drew ?_ | refine blk_alloc ?_ _)); exact BK134.out)); intro w54 hp_ hg; have n0_ := Aside0.mk (hp_); have n1_ := Aside0.mk (blk_grown (g := gb136) (o := .cells #[.int .i64 ((rd_T46 l0 x11_1).f0), .bool ((rd_T46 l0 x11_1).f1), .string ((rd_T46 l0 x11_1).f2), .string ((rd_T46 l0 x11_1).f3), .int .i64 ((rd_T46 l0 x11_1).f4), .int .i64 ((rd_T46 l0 x11_1).f5)] 46 (0, 0)) (by (with_reducible repeat (first | refine blk_drewN ?_ _ | refine blk_drew ?_ | refine blk_alloc ?_ _)); exact BK136.out) hg (fun e_ => NB136_134.out (Option.some.inj e_))); have n2_ := Aside0.mk (below_put (by repeat (first | (with_reducible first | exact HB.out | apply below_alloc | apply pw_below_drewN | apply below_drew1 | refine below_set ?_ GE134.out | refine below_set ?_ GE136.out) | exact HB.out)) hg GW134.out); clear BK134; clear BK136; clear HB; have BK134 := n0_; have BK136 := n1_; have HB := n2_; clear n0_ n1_ n2_; clear hp_ hg; have hcz55_0 : w54.cell? ⟨gb136, 0, none⟩ = some (.int .i64 ((rd_T46 l0 x11_1).f0)) := (blk_cell BK136.out 0).trans rfl; have hcz55_1 : w54.cell? ⟨gb136, 1, none⟩ = some (.bool ((rd_T46 l0 x11_1).f1)) := (blk_cell BK136.out 1).trans rfl; have hcz55_2 : w54.cell? ⟨gb136, 2, none⟩ = some (.string ((rd_T46 l0 x11_1).f2)) := (blk_cell BK136.out 2).trans rfl; have hcz55_3 : w54.cell? ⟨gb136, 3, none⟩ = some (.string ((rd_T46 l0 x11_1).f3)) := (blk_cell BK136.out 3).trans rfl; have hcz55_4 : w54.cell? ⟨gb136, 4, none⟩ = some (.int .i64 ((rd_T46 l0 x11_1).f4)) := (blk_cell BK136.out 4).trans rfl; have hcz55_5 : w54.cell? ⟨gb136, 5, none⟩ = some (.int .i64 ((rd_T46 l0 x11_1).f5)) := (blk_cell BK136.out 5).trans rfl; have hfz55_0 := blk_frozen BK136.out 0; have hfz55_1 := blk_frozen BK136.out 1; have hfz55_2 := blk_frozen BK136.out 2; have hfz55_3 := blk_frozen BK136.out 3; have hfz55_4 := blk_frozen BK136.out 4; have hfz55_5 := blk_frozen BK136.out 5) | ((with_reducible refine gate_mput (t := 65) ⟨_, _, _, rfl⟩ ?_); refine mput_event (ek := (Value.int .i64)) (ev := Value.bool) ?hg 65 3 4 (b := gb134) (m := (mput x135000_1 ((rd_T46 l0 x11_1).f4) true)) ((rd_T46 l0 x11_1).f5) true ?ho Tryd.underlying65 (mapKey_int Tryd.underlying3) ?hn ?hb ?_; (case ho => exact ⟨_, _, _, rfl, rfl, rfl, rfl⟩); (case hg => rfl); (case hn => rfl); (case hb => exact (by (with_reducible repeat (first | refine blk_drewN ?_ _ | refine blk_drew ?_ | refine blk_alloc ?_ _)); exact BK134.out)); intro w56 hp_ hg; have n0_ := Aside0.mk (hp_); have n1_ := Aside0.mk (blk_grown (g := gb136) (o := .cells #[.int .i64 ((rd_T46 l0 x11_1).f0), .bool ((rd_T46 l0 x11_1).f1), .string ((rd_T46 l0 x11_1).f2), .string ((rd_T46 l0 x11_1).f3), .int .i64 ((rd_T46 l0 x11_1).f4), .int .i64 ((rd_T46 l0 x11_1).f5)] 46 (0, 0)) (by (with_reducible repeat (first | refine blk_drewN ?_ _ | refine blk_drew ?_ | refine blk_alloc ?_ _)); exact BK136.out) hg (fun e_ => NB136_134.out (Option.some.inj e_))); have n2_ := Aside0.mk (below_put (by repeat (first | (with_reducible first | exact HB.out | apply below_alloc | apply pw_below_drewN | apply below_drew1 | refine below_set ?_ GE134.out | refine below_set ?_ GE136.out) | exact HB.out)) hg GW134.out); clear BK134; clear BK136; clear HB; have BK134 := n0_; have BK136 := n1_; have HB := n2_; clear n0_ n1_ n2_; clear hp_ hg; have q57 : (x11_1 : Int) ≤ ((l0.length : Int) : Int) := of_decide_eq_true (by first | (with_reducible assumption) | assumption); obtain ⟨i057, hi057, _, hsz57, _⟩ := info_parts info46; have hroom57 : l0.length ≤ c0 := HC0.out; have hC57 : Kd.C k46 _ (some ad135) l0.length l0 := HR0.out; have hcut57 := cut_to (P := Tryd.prog) 25 46 .i64 Tryd.underlying25 hi057 (some ad135) l0.length c0 x11_1 (of_decide_eq_true (by first | (with_reducible assumption) | assumption)) q57 hroom57; have hr57 := Kd.C_take (m := (x11_1 : Int).toNat) hC57 (by omega); have hy57 : y140.length = (x11_1 : Int).toNat := (by rw [Ny140.out, List.length_take]; omega); rw [← Ny140.out] at hr57; rw [← hy57] at hcut57; have HR143 := Aside0.mk hr57; have HC143 := Aside0.mk (show y140.length ≤ c0 from by omega); clear hr57 hC57 hroom57 hi057 hsz57; have KY57 := Aside0.mk hy57; clear hy57; replace q57 := eq_true q57))
                      go_loopg [71] kj5 (fun kq v71 w' => ∃ (x71_3 : Int), v71 = .int .i64 x71_3 ∧ Aside0 (impl_areCalls.l1 kq l0 l0 (l0.length : Int) x11_1 y140 (y140.length : Int) x71_3 (mput (mput x135000_1 ((rd_T46 l0 x11_1).f4) true) ((rd_T46 l0 x11_1).f5) true) ((rd_T46 l0 x11_1).f0) ((rd_T46 l0 x11_1).f1) ((rd_T46 l0 x11_1).f2) ((rd_T46 l0 x11_1).f3) ((rd_T46 l0 x11_1).f4) ((rd_T46 l0 x11_1).f5) = some r) ∧ Aside0 (kq ≤ kj5) ∧ Aside0 (w'.heap[gb134]? = some (mapObj (Value.int .i64) Value.bool (mput (mput x135000_1 ((rd_T46 l0 x11_1).f4) true) ((rd_T46 l0 x11_1).f5) true))) ∧ Aside0 (w'.heap[gb136]? = some (.cells #[.int .i64 ((rd_T46 l0 x11_1).f0), .bool ((rd_T46 l0 x11_1).f1), .string ((rd_T46 l0 x11_1).f2), .string ((rd_T46 l0 x11_1).f3), .int .i64 ((rd_T46 l0 x11_1).f4), .int .i64 ((rd_T46 l0 x11_1).f5)] 46 (0, 0))) ∧ Aside0 (Below w.heap.size w w'))
                      case atStart => exact ⟨(0), (by first | rfl | (simp; done) | (simp [*]; done)), H', ⟨Nat.le_refl _⟩, ⟨by (with_reducible repeat (first | refine blk_drewN ?_ _ | refine blk_drew ?_ | refine blk_alloc ?_ _)); exact BK134.out⟩, ⟨by (with_reducible repeat (first | refine blk_drewN ?_ _ | refine blk_drew ?_ | refine blk_alloc ?_ _)); exact BK136.out⟩, ⟨by repeat (first | (with_reducible first | exact HB.out | apply below_alloc | apply pw_below_drewN | apply below_drew1 | refine below_set ?_ GE134.out | refine below_set ?_ GE136.out) | exact HB.out)⟩⟩
                      case round =>
                        clear H'
                        try clear c1
                        try clear p1
                        try clear q1
                        try clear hx1
                        try clear c2
                        try clear p2
                        try clear c3
                        try clear c3b0
                        try clear c4
                        try clear c4b0
                        try clear c5
                        try clear c5b0
                        try clear q5
                        try clear c8
                        try clear c11
                        try clear c13
                        try clear p13
                        try clear q13
                        try clear hx13
                        try clear c15
                        try clear c16
                        try clear c16b0
                        try clear c17
                        try clear c21
                        try clear c21b0
                        try clear c22
                        try clear c26
                        try clear c26b0
                        try clear c27
                        try clear c31
                        try clear c31b0
                        try clear c32
                        try clear c36
                        try clear c40
                        try clear c44
                        try clear c47
                        try clear c49
                        try clear c50
                        try clear c50b0
                        try clear c50b1
                        try clear c51
                        try clear c51b0
                        try clear c51b1
                        try clear c52
                        try clear q57
                        try clear hcz18_0
                        try clear hcz18_1
                        try clear hcz18_2
                        try clear hcz18_3
                        try clear hcz18_4
                        try clear hcz18_5
                        try clear hcz20_0
                        try clear hcz20_1
                        try clear hcz20_2
                        try clear hcz20_3
                        try clear hcz20_4
                        try clear hcz20_5
                        try clear hcz23_0
                        try clear hcz23_1
                        try clear hcz23_2
                        try clear hcz23_3
                        try clear hcz23_4
                        try clear hcz23_5
                        try clear hcz25_0
                        try clear hcz25_1
                        try clear hcz25_2
                        try clear hcz25_3
                        try clear hcz25_4
                        try clear hcz25_5
                        try clear hcz28_0
                        try clear hcz28_1
                        try clear hcz28_2
                        try clear hcz28_3
                        try clear hcz28_4
                        try clear hcz28_5
                        try clear hcz30_0
                        try clear hcz30_1
                        try clear hcz30_2
                        try clear hcz30_3
                        try clear hcz30_4
                        try clear hcz30_5
                        try clear hcz33_0
                        try clear hcz33_1
                        try clear hcz33_2
                        try clear hcz33_3
                        try clear hcz33_4
                        try clear hcz33_5
                        try clear hcz35_0
                        try clear hcz35_1
                        try clear hcz35_2
                        try clear hcz35_3
                        try clear hcz35_4
                        try clear hcz35_5
                        try clear hcz37_0
                        try clear hcz37_1
                        try clear hcz37_2
                        try clear hcz37_3
                        try clear hcz37_4
                        try clear hcz37_5
                        try clear hcz39_0
                        try clear hcz39_1
                        try clear hcz39_2
                        try clear hcz39_3
                        try clear hcz39_4
                        try clear hcz39_5
                        try clear hcz41_0
                        try clear hcz41_1
                        try clear hcz41_2
                        try clear hcz41_3
                        try clear hcz41_4
                        try clear hcz41_5
                        try clear hcz43_0
                        try clear hcz43_1
                        try clear hcz43_2
                        try clear hcz43_3
                        try clear hcz43_4
                        try clear hcz43_5
                        try clear hcz45_0
                        try clear hcz45_1
                        try clear hcz45_2
                        try clear hcz45_3
                        try clear hcz45_4
                        try clear hcz45_5
                        try clear hcz48_0
                        try clear hcz48_1
                        try clear hcz48_2
                        try clear hcz48_3
                        try clear hcz48_4
                        try clear hcz48_5
                        try clear hcz53_0
                        try clear hcz53_1
                        try clear hcz53_2
                        try clear hcz53_3
                        try clear hcz53_4
                        try clear hcz53_5
                        try clear hcz55_0
                        try clear hcz55_1
                        try clear hcz55_2
                        try clear hcz55_3
                        try clear hcz55_4
                        try clear hcz55_5
                        try clear hcz9_0
                        try clear hcz9_1
                        try clear hcz9_2
                        try clear hcz9_3
                        try clear hcz9_4
                        try clear hcz9_5
                        try clear hfz18_0
                        try clear hfz18_1
                        try clear hfz18_2
                        try clear hfz18_3
                        try clear hfz18_4
                        try clear hfz18_5
                        try clear hfz20_0
                        try clear hfz20_1
                        try clear hfz20_2
                        try clear hfz20_3
                        try clear hfz20_4
                        try clear hfz20_5
                        try clear hfz23_0
                        try clear hfz23_1
                        try clear hfz23_2
                        try clear hfz23_3
                        try clear hfz23_4
                        try clear hfz23_5
                        try clear hfz25_0
                        try clear hfz25_1
                        try clear hfz25_2
                        try clear hfz25_3
                        try clear hfz25_4
                        try clear hfz25_5
                        try clear hfz28_0
                        try clear hfz28_1
                        try clear hfz28_2
                        try clear hfz28_3
                        try clear hfz28_4
                        try clear hfz28_5
                        try clear hfz30_0
                        try clear hfz30_1
                        try clear hfz30_2
                        try clear hfz30_3
                        try clear hfz30_4
                        try clear hfz30_5
                        try clear hfz33_0
                        try clear hfz33_1
                        try clear hfz33_2
                        try clear hfz33_3
                        try clear hfz33_4
                        try clear hfz33_5
                        try clear hfz35_0
                        try clear hfz35_1
                        try clear hfz35_2
                        try clear hfz35_3
                        try clear hfz35_4
                        try clear hfz35_5
                        try clear hfz37_0
                        try clear hfz37_1
                        try clear hfz37_2
                        try clear hfz37_3
                        try clear hfz37_4
                        try clear hfz37_5
                        try clear hfz39_0
                        try clear hfz39_1
                        try clear hfz39_2
                        try clear hfz39_3
                        try clear hfz39_4
                        try clear hfz39_5
                        try clear hfz41_0
                        try clear hfz41_1
                        try clear hfz41_2
                        try clear hfz41_3
                        try clear hfz41_4
                        try clear hfz41_5
                        try clear hfz43_0
                        try clear hfz43_1
                        try clear hfz43_2
                        try clear hfz43_3
                        try clear hfz43_4
                        try clear hfz43_5
                        try clear hfz45_0
                        try clear hfz45_1
                        try clear hfz45_2
                        try clear hfz45_3
                        try clear hfz45_4
                        try clear hfz45_5
                        try clear hfz48_0
                        try clear hfz48_1
                        try clear hfz48_2
                        try clear hfz48_3
                        try clear hfz48_4
                        try clear hfz48_5
                        try clear hfz53_0
                        try clear hfz53_1
                        try clear hfz53_2
                        try clear hfz53_3
                        try clear hfz53_4
                        try clear hfz53_5
                        try clear hfz55_0
                        try clear hfz55_1
                        try clear hfz55_2
                        try clear hfz55_3
                        try clear hfz55_4
                        try clear hfz55_5
                        try clear hfz9_0
                        try clear hfz9_1
                        try clear hfz9_2
                        try clear hfz9_3
                        try clear hfz9_4
                        try clear hfz9_5
                        try clear hx135_0
                        try clear hx135_1
                        try clear hx135_2
                        try clear hx135_3
                        try clear hx135_4
                        try clear hx135_5
                        try clear p1
                        try clear p13
                        try clear p135
                        try clear p2
                        try clear q1
                        try clear q13
                        try clear q135
                        try clear q57
                        obtain ⟨x71_3, rfl, HA, HK3, BK134, BK136, HB⟩ := hrel
                        cases gk with
                        | zero => exact absurd HA.out (by simp [impl_areCalls.l1])
                        | succ k3 =>
                          have H := HA.out
                          clear HA
                          simp only [impl_areCalls.l1] at H
                          by_cases c58 : x71_3 < (y140.length : Int)
                          · rw [if_pos c58] at H
                            have c58b0 : decide (x71_3 < (y140.length : Int)) = true := decide_eq_true c58
                            clear c58
                            by_cases c59 : 0 ≤ x71_3
                            · rw [if_pos c59] at H
                              have c59b0 : decide (0 ≤ x71_3) = true := decide_eq_true c59
                              clear c59
                              by_cases c60 : x71_3 < (y140.length : Int)
                              · rw [if_pos c60] at H
                                have c60b0 : decide (x71_3 < (y140.length : Int)) = true := decide_eq_true c60
                                clear c60
                                by_cases c61 : ((rd_T46 l0 x11_1).f0) = ((rd_T46 y140 x71_3).f0)
                                · rw [if_pos c61] at H
                                  have c61b0 : (((rd_T46 l0 x11_1).f0) == ((rd_T46 y140 x71_3).f0)) = true := beq_iff_eq.mpr c61
                                  have c61b1 : (((rd_T46 l0 x11_1).f0) != ((rd_T46 y140 x71_3).f0)) = false := bne_eq_false_iff_eq.mpr c61
                                  clear c61
                                  by_cases c62 : ((rd_T46 l0 x11_1).f5) > ((rd_T46 y140 x71_3).f4)
                                  · rw [if_pos c62] at H
                                    have c62b0 : decide (((rd_T46 y140 x71_3).f4) < ((rd_T46 l0 x11_1).f5)) = true := decide_eq_true c62
                                    clear c62
                                    by_cases c63 : ((rd_T46 y140 x71_3).f5) > ((rd_T46 l0 x11_1).f4)
                                    · rw [if_pos c63] at H
                                      have c63b0 : decide (((rd_T46 l0 x11_1).f4) < ((rd_T46 y140 x71_3).f5)) = true := decide_eq_true c63
                                      clear c63
                                      obtain rfl := Option.some.inj H
                                      have p144 : 0 ≤ (x71_3 : Int) := of_decide_eq_true (by first | (with_reducible assumption) | assumption)
                                      have q144 : x71_3 < (y140.length : Int) := of_decide_eq_true (by first | (with_reducible assumption) | assumption)
                                      obtain ⟨ad144, e144, hx144_0, hx144_1, hx144_2, hx144_3, hx144_4, hx144_5⟩ := at_T46 HR143.out x71_3 p144 q144
                                      obtain rfl : ad135 = ad144 := (by injection e144)
                                      replace hx144_0 := (HB.out.cell (World.block_lt_of_cell? w _ hx144_0)).trans hx144_0
                                      replace hx144_1 := (HB.out.cell (World.block_lt_of_cell? w _ hx144_1)).trans hx144_1
                                      replace hx144_2 := (HB.out.cell (World.block_lt_of_cell? w _ hx144_2)).trans hx144_2
                                      replace hx144_3 := (HB.out.cell (World.block_lt_of_cell? w _ hx144_3)).trans hx144_3
                                      replace hx144_4 := (HB.out.cell (World.block_lt_of_cell? w _ hx144_4)).trans hx144_4
                                      replace hx144_5 := (HB.out.cell (World.block_lt_of_cell? w _ hx144_5)).trans hx144_5
                                      replace p144 := eq_true p144
                                      replace q144 := eq_true q144
                                      go_wp2_with (first | ((with_reducible refine gate_dst (N := 7) rfl ?_); (try (refine gate_guard (by rfl) ?_; dsimp only)); refine box_event ?hg (N := 7) ?hd (cs := #[.int .i64 0, .bool false, .string (⟨#[]⟩ : ByteArray), .string (⟨#[]⟩ : ByteArray), .int .i64 0, .int .i64 0]) (t := 46) ?hr ?_; (case hd => rfl); (case hg => rfl); (case hr => first | (go_simp; done) | (go_simp; rfl)); intro gb145 hg w64 hbox hb; have n0_ := Aside0.mk (blk_below (g := gb134) (o := mapObj (Value.int .i64) Value.bool (mput (mput x135000_1 ((rd_T46 l0 x11_1).f4) true) ((rd_T46 l0 x11_1).f5) true)) (by (with_reducible repeat (first | refine blk_drewN ?_ _ | refine blk_drew ?_ | refine blk_alloc ?_ _)); exact BK134.out) hb); have n1_ := Aside0.mk (blk_below (g := gb136) (o := .cells #[.int .i64 ((rd_T46 l0 x11_1).f0), .bool ((rd_T46 l0 x11_1).f1), .string ((rd_T46 l0 x11_1).f2), .string ((rd_T46 l0 x11_1).f3), .int .i64 ((rd_T46 l0 x11_1).f4), .int .i64 ((rd_T46 l0 x11_1).f5)] 46 (0, 0)) (by (with_reducible repeat (first | refine blk_drewN ?_ _ | refine blk_drew ?_ | refine blk_alloc ?_ _)); exact BK136.out) hb); have n2_ := Aside0.mk (below_step (by repeat (first | (with_reducible first | exact HB.out | apply below_alloc | apply pw_below_drewN | apply below_drew1 | refine below_set ?_ GE134.out | refine below_set ?_ GE136.out) | exact HB.out)) hb); have n3_ := Aside0.mk (hbox); have n4_ := Aside0.mk ((by rw [hg]; exact (below_size (by repeat (first | (with_reducible first | exact HB.out | apply below_alloc | apply pw_below_drewN | apply below_drew1 | refine below_set ?_ GE134.out | refine below_set ?_ GE136.out) | exact HB.out))) : w.heap.size ≤ gb145)); have n5_ := Aside0.mk ((by rw [hg]; exact (below_size (by repeat (first | (with_reducible first | exact HB.out | apply below_alloc | apply pw_below_drewN | apply below_drew1 | refine below_set ?_ GE134.out | refine below_set ?_ GE136.out) | exact HB.out))) : w.heap.size ≤ gb145)); have n6_ := Aside0.mk ((by rw [hg]; exact Nat.ne_of_lt (blk_lt (g := gb134) (o := mapObj (Value.int .i64) Value.bool (mput (mput x135000_1 ((rd_T46 l0 x11_1).f4) true) ((rd_T46 l0 x11_1).f5) true)) (by (with_reducible repeat (first | refine blk_drewN ?_ _ | refine blk_drew ?_ | refine blk_alloc ?_ _)); exact BK134.out)) : gb134 ≠ gb145)); have n7_ := Aside0.mk ((by rw [hg]; exact Nat.ne_of_gt (blk_lt (g := gb134) (o := mapObj (Value.int .i64) Value.bool (mput (mput x135000_1 ((rd_T46 l0 x11_1).f4) true) ((rd_T46 l0 x11_1).f5) true)) (by (with_reducible repeat (first | refine blk_drewN ?_ _ | refine blk_drew ?_ | refine blk_alloc ?_ _)); exact BK134.out)) : gb145 ≠ gb134)); have n8_ := Aside0.mk ((by rw [hg]; exact Nat.ne_of_lt (blk_lt (g := gb136) (o := .cells #[.int .i64 ((rd_T46 l0 x11_1).f0), .bool ((rd_T46 l0 x11_1).f1), .string ((rd_T46 l0 x11_1).f2), .string ((rd_T46 l0 x11_1).f3), .int .i64 ((rd_T46 l0 x11_1).f4), .int .i64 ((rd_T46 l0 x11_1).f5)] 46 (0, 0)) (by (with_reducible repeat (first | refine blk_drewN ?_ _ | refine blk_drew ?_ | refine blk_alloc ?_ _)); exact BK136.out)) : gb136 ≠ gb145)); have n9_ := Aside0.mk ((by rw [hg]; exact Nat.ne_of_gt (blk_lt (g := gb136) (o := .cells #[.int .i64 ((rd_T46 l0 x11_1).f0), .bool ((rd_T46 l0 x11_1).f1), .string ((rd_T46 l0 x11_1).f2), .string ((rd_T46 l0 x11_1).f3), .int .i64 ((rd_T46 l0 x11_1).f4), .int .i64 ((rd_T46 l0 x11_1).f5)] 46 (0, 0)) (by (with_reducible repeat (first | refine blk_drewN ?_ _ | refine blk_drew ?_ | refine blk_alloc ?_ _)); exact BK136.out)) : gb145 ≠ gb136)); clear BK134; clear BK136; clear HB; have BK134 := n0_; have BK136 := n1_; have HB := n2_; have BK145 := n3_; have GW145 := n4_; have GE145 := n5_; have NB134_145 := n6_; have NB145_134 := n7_; have NB136_145 := n8_; have NB145_136 := n9_; clear n0_ n1_ n2_ n3_ n4_ n5_ n6_ n7_ n8_ n9_; clear hb hbox hg; have hnb65 := NB145_134.out; have hnc65 := NB134_145.out; have hnb66 := NB145_136.out; have hnc66 := NB136_145.out; have hcz67_0 : w64.cell? ⟨gb145, 0, none⟩ = some (.int .i64 0) := (blk_cell BK145.out 0).trans rfl; have hcz67_1 : w64.cell? ⟨gb145, 1, none⟩ = some (.bool false) := (blk_cell BK145.out 1).trans rfl; have hcz67_2 : w64.cell? ⟨gb145, 2, none⟩ = some (.string (⟨#[]⟩ : ByteArray)) := (blk_cell BK145.out 2).trans rfl; have hcz67_3 : w64.cell? ⟨gb145, 3, none⟩ = some (.string (⟨#[]⟩ : ByteArray)) := (blk_cell BK145.out 3).trans rfl; have hcz67_4 : w64.cell? ⟨gb145, 4, none⟩ = some (.int .i64 0) := (blk_cell BK145.out 4).trans rfl; have hcz67_5 : w64.cell? ⟨gb145, 5, none⟩ = some (.int .i64 0) := (blk_cell BK145.out 5).trans rfl; have hfz67_0 := blk_frozen BK145.out 0; have hfz67_1 := blk_frozen BK145.out 1; have hfz67_2 := blk_frozen BK145.out 2; have hfz67_3 := blk_frozen BK145.out 3; have hfz67_4 := blk_frozen BK145.out 4; have hfz67_5 := blk_frozen BK145.out 5; have hnb68 := NB136_134.out; have hnc68 := NB134_136.out; have hcz69_0 : w64.cell? ⟨gb136, 0, none⟩ = some (.int .i64 ((rd_T46 l0 x11_1).f0)) := (blk_cell BK136.out 0).trans rfl; have hcz69_1 : w64.cell? ⟨gb136, 1, none⟩ = some (.bool ((rd_T46 l0 x11_1).f1)) := (blk_cell BK136.out 1).trans rfl; have hcz69_2 : w64.cell? ⟨gb136, 2, none⟩ = some (.string ((rd_T46 l0 x11_1).f2)) := (blk_cell BK136.out 2).trans rfl; have hcz69_3 : w64.cell? ⟨gb136, 3, none⟩ = some (.string ((rd_T46 l0 x11_1).f3)) := (blk_cell BK136.out 3).trans rfl; have hcz69_4 : w64.cell? ⟨gb136, 4, none⟩ = some (.int .i64 ((rd_T46 l0 x11_1).f4)) := (blk_cell BK136.out 4).trans rfl; have hcz69_5 : w64.cell? ⟨gb136, 5, none⟩ = some (.int .i64 ((rd_T46 l0 x11_1).f5)) := (blk_cell BK136.out 5).trans rfl; have hfz69_0 := blk_frozen BK136.out 0; have hfz69_1 := blk_frozen BK136.out 1; have hfz69_2 := blk_frozen BK136.out 2; have hfz69_3 := blk_frozen BK136.out 3; have hfz69_4 := blk_frozen BK136.out 4; have hfz69_5 := blk_frozen BK136.out 5))
                                      go_ret
                                      exact ⟨by first | rfl | (simp [errW_none, errW_some] <;> rfl) | (simp [*, errW_none, errW_some] <;> rfl), by repeat (first | (with_reducible first | exact HB.out | apply below_alloc | apply pw_below_drewN | apply below_drew1 | refine below_set ?_ GE134.out | refine below_set ?_ GE136.out | refine below_set ?_ GE145.out) | exact HB.out)⟩
                                    · rw [if_neg c63] at H
                                      have c63b0 : decide (((rd_T46 l0 x11_1).f4) < ((rd_T46 y140 x71_3).f5)) = false := decide_eq_false c63
                                      clear c63
                                      have H' := Aside0.mk H
                                      clear H
                                      have p144 : 0 ≤ (x71_3 : Int) := of_decide_eq_true (by first | (with_reducible assumption) | assumption)
                                      have q144 : x71_3 < (y140.length : Int) := of_decide_eq_true (by first | (with_reducible assumption) | assumption)
                                      obtain ⟨ad144, e144, hx144_0, hx144_1, hx144_2, hx144_3, hx144_4, hx144_5⟩ := at_T46 HR143.out x71_3 p144 q144
                                      obtain rfl : ad135 = ad144 := (by injection e144)
                                      replace hx144_0 := (HB.out.cell (World.block_lt_of_cell? w _ hx144_0)).trans hx144_0
                                      replace hx144_1 := (HB.out.cell (World.block_lt_of_cell? w _ hx144_1)).trans hx144_1
                                      replace hx144_2 := (HB.out.cell (World.block_lt_of_cell? w _ hx144_2)).trans hx144_2
                                      replace hx144_3 := (HB.out.cell (World.block_lt_of_cell? w _ hx144_3)).trans hx144_3
                                      replace hx144_4 := (HB.out.cell (World.block_lt_of_cell? w _ hx144_4)).trans hx144_4
                                      replace hx144_5 := (HB.out.cell (World.block_lt_of_cell? w _ hx144_5)).trans hx144_5
                                      replace p144 := eq_true p144
                                      replace q144 := eq_true q144
                                      go_wp2_with (first | ((with_reducible refine gate_dst (N := 7) rfl ?_); (try (refine gate_guard (by rfl) ?_; dsimp only)); refine box_event ?hg (N := 7) ?hd (cs := #[.int .i64 0, .bool false, .string (⟨#[]⟩ : ByteArray), .string (⟨#[]⟩ : ByteArray), .int .i64 0, .int .i64 0]) (t := 46) ?hr ?_; (case hd => rfl); (case hg => rfl); (case hr => first | (go_simp; done) | (go_simp; rfl)); intro gb145 hg w70 hbox hb; have n0_ := Aside0.mk (blk_below (g := gb134) (o := mapObj (Value.int .i64) Value.bool (mput (mput x135000_1 ((rd_T46 l0 x11_1).f4) true) ((rd_T46 l0 x11_1).f5) true)) (by (with_reducible repeat (first | refine blk_drewN ?_ _ | refine blk_drew ?_ | refine blk_alloc ?_ _)); exact BK134.out) hb); have n1_ := Aside0.mk (blk_below (g := gb136) (o := .cells #[.int .i64 ((rd_T46 l0 x11_1).f0), .bool ((rd_T46 l0 x11_1).f1), .string ((rd_T46 l0 x11_1).f2), .string ((rd_T46 l0 x11_1).f3), .int .i64 ((rd_T46 l0 x11_1).f4), .int .i64 ((rd_T46 l0 x11_1).f5)] 46 (0, 0)) (by (with_reducible repeat (first | refine blk_drewN ?_ _ | refine blk_drew ?_ | refine blk_alloc ?_ _)); exact BK136.out) hb); have n2_ := Aside0.mk (below_step (by repeat (first | (with_reducible first | exact HB.out | apply below_alloc | apply pw_below_drewN | apply below_drew1 | refine below_set ?_ GE134.out | refine below_set ?_ GE136.out) | exact HB.out)) hb); have n3_ := Aside0.mk (hbox); have n4_ := Aside0.mk ((by rw [hg]; exact (below_size (by repeat (first | (with_reducible first | exact HB.out | apply below_alloc | apply pw_below_drewN | apply below_drew1 | refine below_set ?_ GE134.out | refine below_set ?_ GE136.out) | exact HB.out))) : w.heap.size ≤ gb145)); have n5_ := Aside0.mk ((by rw [hg]; exact (below_size (by repeat (first | (with_reducible first | exact HB.out | apply below_alloc | apply pw_below_drewN | apply below_drew1 | refine below_set ?_ GE134.out | refine below_set ?_ GE136.out) | exact HB.out))) : w.heap.size ≤ gb145)); have n6_ := Aside0.mk ((by rw [hg]; exact Nat.ne_of_lt (blk_lt (g := gb134) (o := mapObj (Value.int .i64) Value.bool (mput (mput x135000_1 ((rd_T46 l0 x11_1).f4) true) ((rd_T46 l0 x11_1).f5) true)) (by (with_reducible repeat (first | refine blk_drewN ?_ _ | refine blk_drew ?_ | refine blk_alloc ?_ _)); exact BK134.out)) : gb134 ≠ gb145)); have n7_ := Aside0.mk ((by rw [hg]; exact Nat.ne_of_gt (blk_lt (g := gb134) (o := mapObj (Value.int .i64) Value.bool (mput (mput x135000_1 ((rd_T46 l0 x11_1).f4) true) ((rd_T46 l0 x11_1).f5) true)) (by (with_reducible repeat (first | refine blk_drewN ?_ _ | refine blk_drew ?_ | refine blk_alloc ?_ _)); exact BK134.out)) : gb145 ≠ gb134)); have n8_ := Aside0.mk ((by rw [hg]; exact Nat.ne_of_lt (blk_lt (g := gb136) (o := .cells #[.int .i64 ((rd_T46 l0 x11_1).f0), .bool ((rd_T46 l0 x11_1).f1), .string ((rd_T46 l0 x11_1).f2), .string ((rd_T46 l0 x11_1).f3), .int .i64 ((rd_T46 l0 x11_1).f4), .int .i64 ((rd_T46 l0 x11_1).f5)] 46 (0, 0)) (by (with_reducible repeat (first | refine blk_drewN ?_ _ | refine blk_drew ?_ | refine blk_alloc ?_ _)); exact BK136.out)) : gb136 ≠ gb145)); have n9_ := Aside0.mk ((by rw [hg]; exact Nat.ne_of_gt (blk_lt (g := gb136) (o := .cells #[.int .i64 ((rd_T46 l0 x11_1).f0), .bool ((rd_T46 l0 x11_1).f1), .string ((rd_T46 l0 x11_1).f2), .string ((rd_T46 l0 x11_1).f3), .int .i64 ((rd_T46 l0 x11_1).f4), .int .i64 ((rd_T46 l0 x11_1).f5)] 46 (0, 0)) (by (with_reducible repeat (first | refine blk_drewN ?_ _ | refine blk_drew ?_ | refine blk_alloc ?_ _)); exact BK136.out)) : gb145 ≠ gb136)); clear BK134; clear BK136; clear HB; have BK134 := n0_; have BK136 := n1_; have HB := n2_; have BK145 := n3_; have GW145 := n4_; have GE145 := n5_; have NB134_145 := n6_; have NB145_134 := n7_; have NB136_145 := n8_; have NB145_136 := n9_; clear n0_ n1_ n2_ n3_ n4_ n5_ n6_ n7_ n8_ n9_; clear hb hbox hg; have hnb71 := NB145_134.out; have hnc71 := NB134_145.out; have hnb72 := NB145_136.out; have hnc72 := NB136_145.out; have hcz73_0 : w70.cell? ⟨gb145, 0, none⟩ = some (.int .i64 0) := (blk_cell BK145.out 0).trans rfl; have hcz73_1 : w70.cell? ⟨gb145, 1, none⟩ = some (.bool false) := (blk_cell BK145.out 1).trans rfl; have hcz73_2 : w70.cell? ⟨gb145, 2, none⟩ = some (.string (⟨#[]⟩ : ByteArray)) := (blk_cell BK145.out 2).trans rfl; have hcz73_3 : w70.cell? ⟨gb145, 3, none⟩ = some (.string (⟨#[]⟩ : ByteArray)) := (blk_cell BK145.out 3).trans rfl; have hcz73_4 : w70.cell? ⟨gb145, 4, none⟩ = some (.int .i64 0) := (blk_cell BK145.out 4).trans rfl; have hcz73_5 : w70.cell? ⟨gb145, 5, none⟩ = some (.int .i64 0) := (blk_cell BK145.out 5).trans rfl; have hfz73_0 := blk_frozen BK145.out 0; have hfz73_1 := blk_frozen BK145.out 1; have hfz73_2 := blk_frozen BK145.out 2; have hfz73_3 := blk_frozen BK145.out 3; have hfz73_4 := blk_frozen BK145.out 4; have hfz73_5 := blk_frozen BK145.out 5; have hnb74 := NB136_134.out; have hnc74 := NB134_136.out; have hcz75_0 : w70.cell? ⟨gb136, 0, none⟩ = some (.int .i64 ((rd_T46 l0 x11_1).f0)) := (blk_cell BK136.out 0).trans rfl; have hcz75_1 : w70.cell? ⟨gb136, 1, none⟩ = some (.bool ((rd_T46 l0 x11_1).f1)) := (blk_cell BK136.out 1).trans rfl; have hcz75_2 : w70.cell? ⟨gb136, 2, none⟩ = some (.string ((rd_T46 l0 x11_1).f2)) := (blk_cell BK136.out 2).trans rfl; have hcz75_3 : w70.cell? ⟨gb136, 3, none⟩ = some (.string ((rd_T46 l0 x11_1).f3)) := (blk_cell BK136.out 3).trans rfl; have hcz75_4 : w70.cell? ⟨gb136, 4, none⟩ = some (.int .i64 ((rd_T46 l0 x11_1).f4)) := (blk_cell BK136.out 4).trans rfl; have hcz75_5 : w70.cell? ⟨gb136, 5, none⟩ = some (.int .i64 ((rd_T46 l0 x11_1).f5)) := (blk_cell BK136.out 5).trans rfl; have hfz75_0 := blk_frozen BK136.out 0; have hfz75_1 := blk_frozen BK136.out 1; have hfz75_2 := blk_frozen BK136.out 2; have hfz75_3 := blk_frozen BK136.out 3; have hfz75_4 := blk_frozen BK136.out 4; have hfz75_5 := blk_frozen BK136.out 5))
                                      go_roundg k3
                                      case measure => have := HK1.out; have := HJ5.out; have := HK3.out; omega
                                      case rel => exact ⟨(wrap64 (x71_3 + 1)), (by first | rfl | (simp; done) | (simp [*]; done)), H', ⟨by have := HK1.out; have := HJ5.out; have := HK3.out; omega⟩, ⟨by (with_reducible repeat (first | refine blk_drewN ?_ _ | refine blk_drew ?_ | refine blk_alloc ?_ _)); refine obj_far ?_ NB134_145.out _; (with_reducible repeat (first | refine blk_drewN ?_ _ | refine blk_drew ?_ | refine blk_alloc ?_ _)); refine obj_far ?_ NB134_145.out _; (with_reducible repeat (first | refine blk_drewN ?_ _ | refine blk_drew ?_ | refine blk_alloc ?_ _)); refine obj_far ?_ NB134_145.out _; (with_reducible repeat (first | refine blk_drewN ?_ _ | refine blk_drew ?_ | refine blk_alloc ?_ _)); refine obj_far ?_ NB134_145.out _; (with_reducible repeat (first | refine blk_drewN ?_ _ | refine blk_drew ?_ | refine blk_alloc ?_ _)); refine obj_far ?_ NB134_145.out _; (with_reducible repeat (first | refine blk_drewN ?_ _ | refine blk_drew ?_ | refine blk_alloc ?_ _)); refine obj_far ?_ NB134_145.out _; (with_reducible repeat (first | refine blk_drewN ?_ _ | refine blk_drew ?_ | refine blk_alloc ?_ _)); exact BK134.out⟩, ⟨by (with_reducible repeat (first | refine blk_drewN ?_ _ | refine blk_drew ?_ | refine blk_alloc ?_ _)); refine blk_far ?_ NB136_145.out _; (with_reducible repeat (first | refine blk_drewN ?_ _ | refine blk_drew ?_ | refine blk_alloc ?_ _)); refine blk_far ?_ NB136_145.out _; (with_reducible repeat (first | refine blk_drewN ?_ _ | refine blk_drew ?_ | refine blk_alloc ?_ _)); refine blk_far ?_ NB136_145.out _; (with_reducible repeat (first | refine blk_drewN ?_ _ | refine blk_drew ?_ | refine blk_alloc ?_ _)); refine blk_far ?_ NB136_145.out _; (with_reducible repeat (first | refine blk_drewN ?_ _ | refine blk_drew ?_ | refine blk_alloc ?_ _)); refine blk_far ?_ NB136_145.out _; (with_reducible repeat (first | refine blk_drewN ?_ _ | refine blk_drew ?_ | refine blk_alloc ?_ _)); refine blk_far ?_ NB136_145.out _; (with_reducible repeat (first | refine blk_drewN ?_ _ | refine blk_drew ?_ | refine blk_alloc ?_ _)); exact BK136.out⟩, ⟨by repeat (first | (with_reducible first | exact HB.out | apply below_alloc | apply pw_below_drewN | apply below_drew1 | refine below_set ?_ GE134.out | refine below_set ?_ GE136.out | refine below_set ?_ GE145.out) | exact HB.out)⟩⟩
                                  · rw [if_neg c62] at H
                                    have c62b0 : decide (((rd_T46 y140 x71_3).f4) < ((rd_T46 l0 x11_1).f5)) = false := decide_eq_false c62
                                    clear c62
                                    have H' := Aside0.mk H
                                    clear H
                                    have p144 : 0 ≤ (x71_3 : Int) := of_decide_eq_true (by first | (with_reducible assumption) | assumption)
                                    have q144 : x71_3 < (y140.length : Int) := of_decide_eq_true (by first | (with_reducible assumption) | assumption)
                                    obtain ⟨ad144, e144, hx144_0, hx144_1, hx144_2, hx144_3, hx144_4, hx144_5⟩ := at_T46 HR143.out x71_3 p144 q144
                                    obtain rfl : ad135 = ad144 := (by injection e144)
                                    replace hx144_0 := (HB.out.cell (World.block_lt_of_cell? w _ hx144_0)).trans hx144_0
                                    replace hx144_1 := (HB.out.cell (World.block_lt_of_cell? w _ hx144_1)).trans hx144_1
                                    replace hx144_2 := (HB.out.cell (World.block_lt_of_cell? w _ hx144_2)).trans hx144_2
                                    replace hx144_3 := (HB.out.cell (World.block_lt_of_cell? w _ hx144_3)).trans hx144_3
                                    replace hx144_4 := (HB.out.cell (World.block_lt_of_cell? w _ hx144_4)).trans hx144_4
                                    replace hx144_5 := (HB.out.cell (World.block_lt_of_cell? w _ hx144_5)).trans hx144_5
                                    replace p144 := eq_true p144
                                    replace q144 := eq_true q144
                                    go_wp2_with (first | ((with_reducible refine gate_dst (N := 7) rfl ?_); (try (refine gate_guard (by rfl) ?_; dsimp only)); refine box_event ?hg (N := 7) ?hd (cs := #[.int .i64 0, .bool false, .string (⟨#[]⟩ : ByteArray), .string (⟨#[]⟩ : ByteArray), .int .i64 0, .int .i64 0]) (t := 46) ?hr ?_; (case hd => rfl); (case hg => rfl); (case hr => first | (go_simp; done) | (go_simp; rfl)); intro gb145 hg w76 hbox hb; have n0_ := Aside0.mk (blk_below (g := gb134) (o := mapObj (Value.int .i64) Value.bool (mput (mput x135000_1 ((rd_T46 l0 x11_1).f4) true) ((rd_T46 l0 x11_1).f5) true)) (by (with_reducible repeat (first | refine blk_drewN ?_ _ | refine blk_drew ?_ | refine blk_alloc ?_ _)); exact BK134.out) hb); have n1_ := Aside0.mk (blk_below (g := gb136) (o := .cells #[.int .i64 ((rd_T46 l0 x11_1).f0), .bool ((rd_T46 l0 x11_1).f1), .string ((rd_T46 l0 x11_1).f2), .string ((rd_T46 l0 x11_1).f3), .int .i64 ((rd_T46 l0 x11_1).f4), .int .i64 ((rd_T46 l0 x11_1).f5)] 46 (0, 0)) (by (with_reducible repeat (first | refine blk_drewN ?_ _ | refine blk_drew ?_ | refine blk_alloc ?_ _)); exact BK136.out) hb); have n2_ := Aside0.mk (below_step (by repeat (first | (with_reducible first | exact HB.out | apply below_alloc | apply pw_below_drewN | apply below_drew1 | refine below_set ?_ GE134.out | refine below_set ?_ GE136.out) | exact HB.out)) hb); have n3_ := Aside0.mk (hbox); have n4_ := Aside0.mk ((by rw [hg]; exact (below_size (by repeat (first | (with_reducible first | exact HB.out | apply below_alloc | apply pw_below_drewN | apply below_drew1 | refine below_set ?_ GE134.out | refine below_set ?_ GE136.out) | exact HB.out))) : w.heap.size ≤ gb145)); have n5_ := Aside0.mk ((by rw [hg]; exact (below_size (by repeat (first | (with_reducible first | exact HB.out | apply below_alloc | apply pw_below_drewN | apply below_drew1 | refine below_set ?_ GE134.out | refine below_set ?_ GE136.out) | exact HB.out))) : w.heap.size ≤ gb145)); have n6_ := Aside0.mk ((by rw [hg]; exact Nat.ne_of_lt (blk_lt (g := gb134) (o := mapObj (Value.int .i64) Value.bool (mput (mput x135000_1 ((rd_T46 l0 x11_1).f4) true) ((rd_T46 l0 x11_1).f5) true)) (by (with_reducible repeat (first | refine blk_drewN ?_ _ | refine blk_drew ?_ | refine blk_alloc ?_ _)); exact BK134.out)) : gb134 ≠ gb145)); have n7_ := Aside0.mk ((by rw [hg]; exact Nat.ne_of_gt (blk_lt (g := gb134) (o := mapObj (Value.int .i64) Value.bool (mput (mput x135000_1 ((rd_T46 l0 x11_1).f4) true) ((rd_T46 l0 x11_1).f5) true)) (by (with_reducible repeat (first | refine blk_drewN ?_ _ | refine blk_drew ?_ | refine blk_alloc ?_ _)); exact BK134.out)) : gb145 ≠ gb134)); have n8_ := Aside0.mk ((by rw [hg]; exact Nat.ne_of_lt (blk_lt (g := gb136) (o := .cells #[.int .i64 ((rd_T46 l0 x11_1).f0), .bool ((rd_T46 l0 x11_1).f1), .string ((rd_T46 l0 x11_1).f2), .string ((rd_T46 l0 x11_1).f3), .int .i64 ((rd_T46 l0 x11_1).f4), .int .i64 ((rd_T46 l0 x11_1).f5)] 46 (0, 0)) (by (with_reducible repeat (first | refine blk_drewN ?_ _ | refine blk_drew ?_ | refine blk_alloc ?_ _)); exact BK136.out)) : gb136 ≠ gb145)); have n9_ := Aside0.mk ((by rw [hg]; exact Nat.ne_of_gt (blk_lt (g := gb136) (o := .cells #[.int .i64 ((rd_T46 l0 x11_1).f0), .bool ((rd_T46 l0 x11_1).f1), .string ((rd_T46 l0 x11_1).f2), .string ((rd_T46 l0 x11_1).f3), .int .i64 ((rd_T46 l0 x11_1).f4), .int .i64 ((rd_T46 l0 x11_1).f5)] 46 (0, 0)) (by (with_reducible repeat (first | refine blk_drewN ?_ _ | refine blk_drew ?_ | refine blk_alloc ?_ _)); exact BK136.out)) : gb145 ≠ gb136)); clear BK134; clear BK136; clear HB; have BK134 := n0_; have BK136 := n1_; have HB := n2_; have BK145 := n3_; have GW145 := n4_; have GE145 := n5_; have NB134_145 := n6_; have NB145_134 := n7_; have NB136_145 := n8_; have NB145_136 := n9_; clear n0_ n1_ n2_ n3_ n4_ n5_ n6_ n7_ n8_ n9_; clear hb hbox hg; have hnb77 := NB145_134.out; have hnc77 := NB134_145.out; have hnb78 := NB145_136.out; have hnc78 := NB136_145.out; have hcz79_0 : w76.cell? ⟨gb145, 0, none⟩ = some (.int .i64 0) := (blk_cell BK145.out 0).trans rfl; have hcz79_1 : w76.cell? ⟨gb145, 1, none⟩ = some (.bool false) := (blk_cell BK145.out 1).trans rfl; have hcz79_2 : w76.cell? ⟨gb145, 2, none⟩ = some (.string (⟨#[]⟩ : ByteArray)) := (blk_cell BK145.out 2).trans rfl; have hcz79_3 : w76.cell? ⟨gb145, 3, none⟩ = some (.string (⟨#[]⟩ : ByteArray)) := (blk_cell BK145.out 3).trans rfl; have hcz79_4 : w76.cell? ⟨gb145, 4, none⟩ = some (.int .i64 0) := (blk_cell BK145.out 4).trans rfl; have hcz79_5 : w76.cell? ⟨gb145, 5, none⟩ = some (.int .i64 0) := (blk_cell BK145.out 5).trans rfl; have hfz79_0 := blk_frozen BK145.out 0; have hfz79_1 := blk_frozen BK145.out 1; have hfz79_2 := blk_frozen BK145.out 2; have hfz79_3 := blk_frozen BK145.out 3; have hfz79_4 := blk_frozen BK145.out 4; have hfz79_5 := blk_frozen BK145.out 5; have hnb80 := NB136_134.out; have hnc80 := NB134_136.out; have hcz81_0 : w76.cell? ⟨gb136, 0, none⟩ = some (.int .i64 ((rd_T46 l0 x11_1).f0)) := (blk_cell BK136.out 0).trans rfl; have hcz81_1 : w76.cell? ⟨gb136, 1, none⟩ = some (.bool ((rd_T46 l0 x11_1).f1)) := (blk_cell BK136.out 1).trans rfl; have hcz81_2 : w76.cell? ⟨gb136, 2, none⟩ = some (.string ((rd_T46 l0 x11_1).f2)) := (blk_cell BK136.out 2).trans rfl; have hcz81_3 : w76.cell? ⟨gb136, 3, none⟩ = some (.string ((rd_T46 l0 x11_1).f3)) := (blk_cell BK136.out 3).trans rfl; have hcz81_4 : w76.cell? ⟨gb136, 4, none⟩ = some (.int .i64 ((rd_T46 l0 x11_1).f4)) := (blk_cell BK136.out 4).trans rfl; have hcz81_5 : w76.cell? ⟨gb136, 5, none⟩ = some (.int .i64 ((rd_T46 l0 x11_1).f5)) := (blk_cell BK136.out 5).trans rfl; have hfz81_0 := blk_frozen BK136.out 0; have hfz81_1 := blk_frozen BK136.out 1; have hfz81_2 := blk_frozen BK136.out 2; have hfz81_3 := blk_frozen BK136.out 3; have hfz81_4 := blk_frozen BK136.out 4; have hfz81_5 := blk_frozen BK136.out 5))
                                    go_roundg k3
                                    case measure => have := HK1.out; have := HJ5.out; have := HK3.out; omega
                                    case rel => exact ⟨(wrap64 (x71_3 + 1)), (by first | rfl | (simp; done) | (simp [*]; done)), H', ⟨by have := HK1.out; have := HJ5.out; have := HK3.out; omega⟩, ⟨by (with_reducible repeat (first | refine blk_drewN ?_ _ | refine blk_drew ?_ | refine blk_alloc ?_ _)); refine obj_far ?_ NB134_145.out _; (with_reducible repeat (first | refine blk_drewN ?_ _ | refine blk_drew ?_ | refine blk_alloc ?_ _)); refine obj_far ?_ NB134_145.out _; (with_reducible repeat (first | refine blk_drewN ?_ _ | refine blk_drew ?_ | refine blk_alloc ?_ _)); refine obj_far ?_ NB134_145.out _; (with_reducible repeat (first | refine blk_drewN ?_ _ | refine blk_drew ?_ | refine blk_alloc ?_ _)); refine obj_far ?_ NB134_145.out _; (with_reducible repeat (first | refine blk_drewN ?_ _ | refine blk_drew ?_ | refine blk_alloc ?_ _)); refine obj_far ?_ NB134_145.out _; (with_reducible repeat (first | refine blk_drewN ?_ _ | refine blk_drew ?_ | refine blk_alloc ?_ _)); refine obj_far ?_ NB134_145.out _; (with_reducible repeat (first | refine blk_drewN ?_ _ | refine blk_drew ?_ | refine blk_alloc ?_ _)); exact BK134.out⟩, ⟨by (with_reducible repeat (first | refine blk_drewN ?_ _ | refine blk_drew ?_ | refine blk_alloc ?_ _)); refine blk_far ?_ NB136_145.out _; (with_reducible repeat (first | refine blk_drewN ?_ _ | refine blk_drew ?_ | refine blk_alloc ?_ _)); refine blk_far ?_ NB136_145.out _; (with_reducible repeat (first | refine blk_drewN ?_ _ | refine blk_drew ?_ | refine blk_alloc ?_ _)); refine blk_far ?_ NB136_145.out _; (with_reducible repeat (first | refine blk_drewN ?_ _ | refine blk_drew ?_ | refine blk_alloc ?_ _)); refine blk_far ?_ NB136_145.out _; (with_reducible repeat (first | refine blk_drewN ?_ _ | refine blk_drew ?_ | refine blk_alloc ?_ _)); refine blk_far ?_ NB136_145.out _; (with_reducible repeat (first | refine blk_drewN ?_ _ | refine blk_drew ?_ | refine blk_alloc ?_ _)); refine blk_far ?_ NB136_145.out _; (with_reducible repeat (first | refine blk_drewN ?_ _ | refine blk_drew ?_ | refine blk_alloc ?_ _)); exact BK136.out⟩, ⟨by repeat (first | (with_reducible first | exact HB.out | apply below_alloc | apply pw_below_drewN | apply below_drew1 | refine below_set ?_ GE134.out | refine below_set ?_ GE136.out | refine below_set ?_ GE145.out) | exact HB.out)⟩⟩
                                · rw [if_neg c61] at H
                                  have c61b0 : (((rd_T46 l0 x11_1).f0) == ((rd_T46 y140 x71_3).f0)) = false := beq_eq_false_iff_ne.mpr c61
                                  have c61b1 : (((rd_T46 l0 x11_1).f0) != ((rd_T46 y140 x71_3).f0)) = true := bne_iff_ne.mpr c61
                                  have H' := Aside0.mk H
                                  clear H
                                  have p144 : 0 ≤ (x71_3 : Int) := of_decide_eq_true (by first | (with_reducible assumption) | assumption)
                                  have q144 : x71_3 < (y140.length : Int) := of_decide_eq_true (by first | (with_reducible assumption) | assumption)
                                  obtain ⟨ad144, e144, hx144_0, hx144_1, hx144_2, hx144_3, hx144_4, hx144_5⟩ := at_T46 HR143.out x71_3 p144 q144
                                  obtain rfl : ad135 = ad144 := (by injection e144)
                                  replace hx144_0 := (HB.out.cell (World.block_lt_of_cell? w _ hx144_0)).trans hx144_0
                                  replace hx144_1 := (HB.out.cell (World.block_lt_of_cell? w _ hx144_1)).trans hx144_1
                                  replace hx144_2 := (HB.out.cell (World.block_lt_of_cell? w _ hx144_2)).trans hx144_2
                                  replace hx144_3 := (HB.out.cell (World.block_lt_of_cell? w _ hx144_3)).trans hx144_3
                                  replace hx144_4 := (HB.out.cell (World.block_lt_of_cell? w _ hx144_4)).trans hx144_4
                                  replace hx144_5 := (HB.out.cell (World.block_lt_of_cell? w _ hx144_5)).trans hx144_5
                                  replace p144 := eq_true p144
                                  replace q144 := eq_true q144
                                  go_wp2_with (first | ((with_reducible refine gate_dst (N := 7) rfl ?_); (try (refine gate_guard (by rfl) ?_; dsimp only)); refine box_event ?hg (N := 7) ?hd (cs := #[.int .i64 0, .bool false, .string (⟨#[]⟩ : ByteArray), .string (⟨#[]⟩ : ByteArray), .int .i64 0, .int .i64 0]) (t := 46) ?hr ?_; (case hd => rfl); (case hg => rfl); (case hr => first | (go_simp; done) | (go_simp; rfl)); intro gb145 hg w82 hbox hb; have n0_ := Aside0.mk (blk_below (g := gb134) (o := mapObj (Value.int .i64) Value.bool (mput (mput x135000_1 ((rd_T46 l0 x11_1).f4) true) ((rd_T46 l0 x11_1).f5) true)) (by (with_reducible repeat (first | refine blk_drewN ?_ _ | refine blk_drew ?_ | refine blk_alloc ?_ _)); exact BK134.out) hb); have n1_ := Aside0.mk (blk_below (g := gb136) (o := .cells #[.int .i64 ((rd_T46 l0 x11_1).f0), .bool ((rd_T46 l0 x11_1).f1), .string ((rd_T46 l0 x11_1).f2), .string ((rd_T46 l0 x11_1).f3), .int .i64 ((rd_T46 l0 x11_1).f4), .int .i64 ((rd_T46 l0 x11_1).f5)] 46 (0, 0)) (by (with_reducible repeat (first | refine blk_drewN ?_ _ | refine blk_drew ?_ | refine blk_alloc ?_ _)); exact BK136.out) hb); have n2_ := Aside0.mk (below_step (by repeat (first | (with_reducible first | exact HB.out | apply below_alloc | apply pw_below_drewN | apply below_drew1 | refine below_set ?_ GE134.out | refine below_set ?_ GE136.out) | exact HB.out)) hb); have n3_ := Aside0.mk (hbox); have n4_ := Aside0.mk ((by rw [hg]; exact (below_size (by repeat (first | (with_reducible first | exact HB.out | apply below_alloc | apply pw_below_drewN | apply below_drew1 | refine below_set ?_ GE134.out | refine below_set ?_ GE136.out) | exact HB.out))) : w.heap.size ≤ gb145)); have n5_ := Aside0.mk ((by rw [hg]; exact (below_size (by repeat (first | (with_reducible first | exact HB.out | apply below_alloc | apply pw_below_drewN | apply below_drew1 | refine below_set ?_ GE134.out | refine below_set ?_ GE136.out) | exact HB.out))) : w.heap.size ≤ gb145)); have n6_ := Aside0.mk ((by rw [hg]; exact Nat.ne_of_lt (blk_lt (g := gb134) (o := mapObj (Value.int .i64) Value.bool (mput (mput x135000_1 ((rd_T46 l0 x11_1).f4) true) ((rd_T46 l0 x11_1).f5) true)) (by (with_reducible repeat (first | refine blk_drewN ?_ _ | refine blk_drew ?_ | refine blk_alloc ?_ _)); exact BK134.out)) : gb134 ≠ gb145)); have n7_ := Aside0.mk ((by rw [hg]; exact Nat.ne_of_gt (blk_lt (g := gb134) (o := mapObj (Value.int .i64) Value.bool (mput (mput x135000_1 ((rd_T46 l0 x11_1).f4) true) ((rd_T46 l0 x11_1).f5) true)) (by (with_reducible repeat (first | refine blk_drewN ?_ _ | refine blk_drew ?_ | refine blk_alloc ?_ _)); exact BK134.out)) : gb145 ≠ gb134)); have n8_ := Aside0.mk ((by rw [hg]; exact Nat.ne_of_lt (blk_lt (g := gb136) (o := .cells #[.int .i64 ((rd_T46 l0 x11_1).f0), .bool ((rd_T46 l0 x11_1).f1), .string ((rd_T46 l0 x11_1).f2), .string ((rd_T46 l0 x11_1).f3), .int .i64 ((rd_T46 l0 x11_1).f4), .int .i64 ((rd_T46 l0 x11_1).f5)] 46 (0, 0)) (by (with_reducible repeat (first | refine blk_drewN ?_ _ | refine blk_drew ?_ | refine blk_alloc ?_ _)); exact BK136.out)) : gb136 ≠ gb145)); have n9_ := Aside0.mk ((by rw [hg]; exact Nat.ne_of_gt (blk_lt (g := gb136) (o := .cells #[.int .i64 ((rd_T46 l0 x11_1).f0), .bool ((rd_T46 l0 x11_1).f1), .string ((rd_T46 l0 x11_1).f2), .string ((rd_T46 l0 x11_1).f3), .int .i64 ((rd_T46 l0 x11_1).f4), .int .i64 ((rd_T46 l0 x11_1).f5)] 46 (0, 0)) (by (with_reducible repeat (first | refine blk_drewN ?_ _ | refine blk_drew ?_ | refine blk_alloc ?_ _)); exact BK136.out)) : gb145 ≠ gb136)); clear BK134; clear BK136; clear HB; have BK134 := n0_; have BK136 := n1_; have HB := n2_; have BK145 := n3_; have GW145 := n4_; have GE145 := n5_; have NB134_145 := n6_; have NB145_134 := n7_; have NB136_145 := n8_; have NB145_136 := n9_; clear n0_ n1_ n2_ n3_ n4_ n5_ n6_ n7_ n8_ n9_; clear hb hbox hg; have hnb83 := NB145_134.out; have hnc83 := NB134_145.out; have hnb84 := NB145_136.out; have hnc84 := NB136_145.out; have hcz85_0 : w82.cell? ⟨gb145, 0, none⟩ = some (.int .i64 0) := (blk_cell BK145.out 0).trans rfl; have hcz85_1 : w82.cell? ⟨gb145, 1, none⟩ = some (.bool false) := (blk_cell BK145.out 1).trans rfl; have hcz85_2 : w82.cell? ⟨gb145, 2, none⟩ = some (.string (⟨#[]⟩ : ByteArray)) := (blk_cell BK145.out 2).trans rfl; have hcz85_3 : w82.cell? ⟨gb145, 3, none⟩ = some (.string (⟨#[]⟩ : ByteArray)) := (blk_cell BK145.out 3).trans rfl; have hcz85_4 : w82.cell? ⟨gb145, 4, none⟩ = some (.int .i64 0) := (blk_cell BK145.out 4).trans rfl; have hcz85_5 : w82.cell? ⟨gb145, 5, none⟩ = some (.int .i64 0) := (blk_cell BK145.out 5).trans rfl; have hfz85_0 := blk_frozen BK145.out 0; have hfz85_1 := blk_frozen BK145.out 1; have hfz85_2 := blk_frozen BK145.out 2; have hfz85_3 := blk_frozen BK145.out 3; have hfz85_4 := blk_frozen BK145.out 4; have hfz85_5 := blk_frozen BK145.out 5; have hnb86 := NB136_134.out; have hnc86 := NB134_136.out; have hcz87_0 : w82.cell? ⟨gb136, 0, none⟩ = some (.int .i64 ((rd_T46 l0 x11_1).f0)) := (blk_cell BK136.out 0).trans rfl; have hcz87_1 : w82.cell? ⟨gb136, 1, none⟩ = some (.bool ((rd_T46 l0 x11_1).f1)) := (blk_cell BK136.out 1).trans rfl; have hcz87_2 : w82.cell? ⟨gb136, 2, none⟩ = some (.string ((rd_T46 l0 x11_1).f2)) := (blk_cell BK136.out 2).trans rfl; have hcz87_3 : w82.cell? ⟨gb136, 3, none⟩ = some (.string ((rd_T46 l0 x11_1).f3)) := (blk_cell BK136.out 3).trans rfl; have hcz87_4 : w82.cell? ⟨gb136, 4, none⟩ = some (.int .i64 ((rd_T46 l0 x11_1).f4)) := (blk_cell BK136.out 4).trans rfl; have hcz87_5 : w82.cell? ⟨gb136, 5, none⟩ = some (.int .i64 ((rd_T46 l0 x11_1).f5)) := (blk_cell BK136.out 5).trans rfl; have hfz87_0 := blk_frozen BK136.out 0; have hfz87_1 := blk_frozen BK136.out 1; have hfz87_2 := blk_frozen BK136.out 2; have hfz87_3 := blk_frozen BK136.out 3; have hfz87_4 := blk_frozen BK136.out 4; have hfz87_5 := blk_frozen BK136.out 5))
                                  go_roundg k3
                                  case measure => have := HK1.out; have := HJ5.out; have := HK3.out; omega
                                  case rel => exact ⟨(wrap64 (x71_3 + 1)), (by first | rfl | (simp; done) | (simp [*]; done)), H', ⟨by have := HK1.out; have := HJ5.out; have := HK3.out; omega⟩, ⟨by (with_reducible repeat (first | refine blk_drewN ?_ _ | refine blk_drew ?_ | refine blk_alloc ?_ _)); refine obj_far ?_ NB134_145.out _; (with_reducible repeat (first | refine blk_drewN ?_ _ | refine blk_drew ?_ | refine blk_alloc ?_ _)); refine obj_far ?_ NB134_145.out _; (with_reducible repeat (first | refine blk_drewN ?_ _ | refine blk_drew ?_ | refine blk_alloc ?_ _)); refine obj_far ?_ NB134_145.out _; (with_reducible repeat (first | refine blk_drewN ?_ _ | refine blk_drew ?_ | refine blk_alloc ?_ _)); refine obj_far ?_ NB134_145.out _; (with_reducible repeat (first | refine blk_drewN ?_ _ | refine blk_drew ?_ | refine blk_alloc ?_ _)); refine obj_far ?_ NB134_145.out _; (with_reducible repeat (first | refine blk_drewN ?_ _ | refine blk_drew ?_ | refine blk_alloc ?_ _)); refine obj_far ?_ NB134_145.out _; (with_reducible repeat (first | refine blk_drewN ?_ _ | refine blk_drew ?_ | refine blk_alloc ?_ _)); exact BK134.out⟩, ⟨by (with_reducible repeat (first | refine blk_drewN ?_ _ | refine blk_drew ?_ | refine blk_alloc ?_ _)); refine blk_far ?_ NB136_145.out _; (with_reducible repeat (first | refine blk_drewN ?_ _ | refine blk_drew ?_ | refine blk_alloc ?_ _)); refine blk_far ?_ NB136_145.out _; (with_reducible repeat (first | refine blk_drewN ?_ _ | refine blk_drew ?_ | refine blk_alloc ?_ _)); refine blk_far ?_ NB136_145.out _; (with_reducible repeat (first | refine blk_drewN ?_ _ | refine blk_drew ?_ | refine blk_alloc ?_ _)); refine blk_far ?_ NB136_145.out _; (with_reducible repeat (first | refine blk_drewN ?_ _ | refine blk_drew ?_ | refine blk_alloc ?_ _)); refine blk_far ?_ NB136_145.out _; (with_reducible repeat (first | refine blk_drewN ?_ _ | refine blk_drew ?_ | refine blk_alloc ?_ _)); refine blk_far ?_ NB136_145.out _; (with_reducible repeat (first | refine blk_drewN ?_ _ | refine blk_drew ?_ | refine blk_alloc ?_ _)); exact BK136.out⟩, ⟨by repeat (first | (with_reducible first | exact HB.out | apply below_alloc | apply pw_below_drewN | apply below_drew1 | refine below_set ?_ GE134.out | refine below_set ?_ GE136.out | refine below_set ?_ GE145.out) | exact HB.out)⟩⟩
                              · rw [if_neg c60] at H
                                exact absurd H (by simp)
                            · rw [if_neg c59] at H
                              exact absurd H (by simp)
                          · rw [if_neg c58] at H
                            have c58b0 : decide (x71_3 < (y140.length : Int)) = false := decide_eq_false c58
                            clear c58
                            have H' := Aside0.mk H
                            clear H
                            go_wp2
                            go_roundg k3
                            case measure => have := HK1.out; have := HJ5.out; have := HK3.out; omega
                            case rel => exact ⟨(wrap64 (x11_1 + 1)), ((mput (mput x135000_1 ((rd_T46 l0 x11_1).f4) true) ((rd_T46 l0 x11_1).f5) true)), (by first | rfl | (simp; done) | (simp [*]; done)), H', ⟨by have := HK1.out; have := HJ5.out; have := HK3.out; omega⟩, ⟨by (with_reducible repeat (first | refine blk_drewN ?_ _ | refine blk_drew ?_ | refine blk_alloc ?_ _)); exact BK134.out⟩, ⟨by repeat (first | (with_reducible first | exact HB.out | apply below_alloc | apply pw_below_drewN | apply below_drew1 | refine below_set ?_ GE134.out | refine below_set ?_ GE136.out) | exact HB.out)⟩⟩
                    · rw [if_neg c51] at H
                      exact absurd H (by simp)
                  · rw [if_neg c50] at H
                    exact absurd H (by simp)
          · rw [if_neg c5] at H
            exact absurd H (by simp)
        · rw [if_neg c4] at H
          exact absurd H (by simp)
      · rw [if_neg c3] at H
        have c3b0 : decide (x11_1 < (l0.length : Int)) = false := decide_eq_false c3
        clear c3
        obtain rfl := Option.some.inj H
        go_wp2
        go_ret
        exact ⟨by first | rfl | (simp [errW_none, errW_some] <;> rfl) | (simp [*, errW_none, errW_some] <;> rfl), by repeat (first | (with_reducible first | exact HB.out | apply below_alloc | apply pw_below_drewN | apply below_drew1 | refine below_set ?_ GE134.out) | exact HB.out)⟩

end Go.Proofs.YtienplkbbahfjaaDoor.PFnExactGoodCalls
