-- Written by a program of this session (wip/mk.py) over the kit's print. Not trusted: Lean checks it.
import Derived.Test.YtobkiheihjdanaaDoorPFnExactRecoverableOfx0
import Derived.Test.YtobkiheihjdanaaDoorPFnExactRecoverableOfx6
namespace Go.Proofs.YtobkiheihjdanaaDoor.PFnExactRecoverableOf
open Go.RowKit Go.Proofs.YtobkiheihjdanaaDoorW.PrintWords Go.Proofs.YtobkiheihjdanaaDoorW.PrintLast Go.Proofs.YtobkiheihjdanaaDoorW.PrintMore
attribute [local go_sem] max2_int min2_int max_two min_two max_three min_three max_four min_four   -- for this text's walks alone
open Go.Proofs.YtobkiheihjdanaaDoor.MapW
set_option linter.unusedVariables false
set_option linter.unusedSimpArgs false

/-! ### impl_RecoverableOf: function 17 -/
mutual
def impl_RecoverableOf.l0 : Nat → List (S59) → List (S59) → Int → Int → List (Int × Int) → Option (Bool × Bool × Bool × Bool)
  | 0, _, _, _, _, _ => none
  | k + 1, x0, x20, x21, x22, x161000 => if x22 < x21 then (if 0 ≤ x22 then (if x22 < (x20.length : Int) then (if ((rd_T59 x20 x22).f0) = 3 then (impl_RecoverableOf.l0 k x0 x20 x21 (wrap64 (x22 + 1)) (mput x161000 ((rd_T59 x20 x22).f1) x22)) else (impl_RecoverableOf.l0 k x0 x20 x21 (wrap64 (x22 + 1)) x161000)) else (none)) else (none)) else (impl_RecoverableOf.l1 k x0 true true true x0 (x0.length : Int) 0 x161000)
def impl_RecoverableOf.l1 : Nat → List (S59) → Bool → Bool → Bool → List (S59) → Int → Int → List (Int × Int) → Option (Bool × Bool × Bool × Bool)
  | 0, _, _, _, _, _, _, _, _ => none
  | k + 1, x0, x9, x10, x11, x35, x36, x37, x161000 => if x37 < x36 then (if 0 ≤ x37 then (if x37 < (x35.length : Int) then ((impl_writerAt.f k x0 x37).bind fun t165 => (if ((rd_T59 x35 x37).f0) = 3 then (impl_RecoverableOf.j2 k x0 x9 x10 x11 x37 t165 x35 x36 x37 true x161000 ((rd_T59 x35 x37).f0) ((rd_T59 x35 x37).f1) ((rd_T59 x35 x37).f2)) else (if t165 = 0 then (impl_RecoverableOf.j2 k x0 x9 x10 x11 x37 t165 x35 x36 x37 true x161000 ((rd_T59 x35 x37).f0) ((rd_T59 x35 x37).f1) ((rd_T59 x35 x37).f2)) else (impl_RecoverableOf.j2 k x0 x9 x10 x11 x37 t165 x35 x36 x37 (t165 == ((rd_T59 x35 x37).f1)) x161000 ((rd_T59 x35 x37).f0) ((rd_T59 x35 x37).f1) ((rd_T59 x35 x37).f2))))) else (none)) else (none)) else (some (x9, x10, x11, true))
def impl_RecoverableOf.j2 : Nat → List (S59) → Bool → Bool → Bool → Int → Int → List (S59) → Int → Int → Bool → List (Int × Int) → Int → Int → ByteArray → Option (Bool × Bool × Bool × Bool)
  | 0, _, _, _, _, _, _, _, _, _, _, _, _, _, _ => none
  | k + 1, x0, x9, x10, x11, x12, x14, x35, x36, x37, x57, x161000, x165000, x165001, x165002 => if x57 = true then (impl_RecoverableOf.l1 k x0 x9 x10 x11 x35 x36 (wrap64 (x37 + 1)) x161000) else (if x11 = true then (if x165000 = 1 then (if x9 = true then (if x10 = true then (impl_RecoverableOf.l1 k x0 (decide ((mgetD x161000 x14 0) < (mgetD x161000 x165001 0))) (!(decide ((mgetD x161000 x14 0) > x12))) (!(decide ((mgetD x161000 x14 0) > x12))) x35 x36 (wrap64 (x37 + 1)) x161000) else (impl_RecoverableOf.l1 k x0 (decide ((mgetD x161000 x14 0) < (mgetD x161000 x165001 0))) false (!(decide ((mgetD x161000 x14 0) > x12))) x35 x36 (wrap64 (x37 + 1)) x161000)) else (if x10 = true then (impl_RecoverableOf.l1 k x0 false (!(decide ((mgetD x161000 x14 0) > x12))) (!(decide ((mgetD x161000 x14 0) > x12))) x35 x36 (wrap64 (x37 + 1)) x161000) else (impl_RecoverableOf.l1 k x0 false false (!(decide ((mgetD x161000 x14 0) > x12))) x35 x36 (wrap64 (x37 + 1)) x161000))) else (impl_RecoverableOf.l1 k x0 x9 x10 (!(decide ((mgetD x161000 x14 0) > x12))) x35 x36 (wrap64 (x37 + 1)) x161000)) else (if x165000 = 1 then (if x9 = true then (if x10 = true then (impl_RecoverableOf.l1 k x0 (decide ((mgetD x161000 x14 0) < (mgetD x161000 x165001 0))) (!(decide ((mgetD x161000 x14 0) > x12))) false x35 x36 (wrap64 (x37 + 1)) x161000) else (impl_RecoverableOf.l1 k x0 (decide ((mgetD x161000 x14 0) < (mgetD x161000 x165001 0))) false false x35 x36 (wrap64 (x37 + 1)) x161000)) else (if x10 = true then (impl_RecoverableOf.l1 k x0 false (!(decide ((mgetD x161000 x14 0) > x12))) false x35 x36 (wrap64 (x37 + 1)) x161000) else (impl_RecoverableOf.l1 k x0 false false false x35 x36 (wrap64 (x37 + 1)) x161000))) else (impl_RecoverableOf.l1 k x0 x9 x10 false x35 x36 (wrap64 (x37 + 1)) x161000)))
end
def impl_RecoverableOf.f (k : Nat) (l0 : List (S59)) : Option (Bool × Bool × Bool × Bool) := (impl_areOps.f k l0).bind fun t159 => (if t159 = true then (impl_RecoverableOf.l0 k l0 l0 (l0.length : Int) 0 ([] : List (Int × Int))) else (some (false, false, false, false)))
theorem impl_RecoverableOf.mono_l : ∀ k, (∀ y0 y1 y2 y3 y4, LeO (impl_RecoverableOf.l0 k y0 y1 y2 y3 y4) (impl_RecoverableOf.l0 (k + 1) y0 y1 y2 y3 y4)) ∧ (∀ y0 y1 y2 y3 y4 y5 y6 y7, LeO (impl_RecoverableOf.l1 k y0 y1 y2 y3 y4 y5 y6 y7) (impl_RecoverableOf.l1 (k + 1) y0 y1 y2 y3 y4 y5 y6 y7)) ∧ (∀ y0 y1 y2 y3 y4 y5 y6 y7 y8 y9 y10 y11 y12 y13, LeO (impl_RecoverableOf.j2 k y0 y1 y2 y3 y4 y5 y6 y7 y8 y9 y10 y11 y12 y13) (impl_RecoverableOf.j2 (k + 1) y0 y1 y2 y3 y4 y5 y6 y7 y8 y9 y10 y11 y12 y13))
  | 0 => ⟨fun _ _ _ _ _ r h => by simp [impl_RecoverableOf.l0] at h, fun _ _ _ _ _ _ _ _ r h => by simp [impl_RecoverableOf.l1] at h, fun _ _ _ _ _ _ _ _ _ _ _ _ _ _ r h => by simp [impl_RecoverableOf.j2] at h⟩
  | k + 1 => by
    obtain ⟨ih0, ih1, ih2⟩ := impl_RecoverableOf.mono_l k
    refine ⟨?_, ?_, ?_⟩
    · intro y0 y1 y2 y3 y4
      unfold impl_RecoverableOf.l0
      repeat' first
      | (with_reducible exact ih0 _ _ _ _ _)
      | (with_reducible exact ih1 _ _ _ _ _ _ _ _)
      | (with_reducible exact ih2 _ _ _ _ _ _ _ _ _ _ _ _ _ _)
      | (with_reducible exact impl_areOps.mono _ _)
      | (with_reducible exact impl_writerAt.mono _ _ _)
      | (with_reducible exact LeO.refl _)
      | (with_reducible exact LeO.none _)
      | (with_reducible refine LeO.ite ?_ ?_)
      | (with_reducible refine LeO.bind ?_ (fun _ => ?_))
      | exact ih0 _ _ _ _ _
      | exact ih1 _ _ _ _ _ _ _ _
      | exact ih2 _ _ _ _ _ _ _ _ _ _ _ _ _ _
      | exact impl_areOps.mono _ _
      | exact impl_writerAt.mono _ _ _
      | exact LeO.none _
      | refine LeO.ite ?_ ?_
      | refine LeO.bind ?_ (fun _ => ?_)
    · intro y0 y1 y2 y3 y4 y5 y6 y7
      unfold impl_RecoverableOf.l1
      repeat' first
      | (with_reducible exact ih0 _ _ _ _ _)
      | (with_reducible exact ih1 _ _ _ _ _ _ _ _)
      | (with_reducible exact ih2 _ _ _ _ _ _ _ _ _ _ _ _ _ _)
      | (with_reducible exact impl_areOps.mono _ _)
      | (with_reducible exact impl_writerAt.mono _ _ _)
      | (with_reducible exact LeO.refl _)
      | (with_reducible exact LeO.none _)
      | (with_reducible refine LeO.ite ?_ ?_)
      | (with_reducible refine LeO.bind ?_ (fun _ => ?_))
      | exact ih0 _ _ _ _ _
      | exact ih1 _ _ _ _ _ _ _ _
      | exact ih2 _ _ _ _ _ _ _ _ _ _ _ _ _ _
      | exact impl_areOps.mono _ _
      | exact impl_writerAt.mono _ _ _
      | exact LeO.none _
      | refine LeO.ite ?_ ?_
      | refine LeO.bind ?_ (fun _ => ?_)
    · intro y0 y1 y2 y3 y4 y5 y6 y7 y8 y9 y10 y11 y12 y13
      unfold impl_RecoverableOf.j2
      repeat' first
      | (with_reducible exact ih0 _ _ _ _ _)
      | (with_reducible exact ih1 _ _ _ _ _ _ _ _)
      | (with_reducible exact ih2 _ _ _ _ _ _ _ _ _ _ _ _ _ _)
      | (with_reducible exact impl_areOps.mono _ _)
      | (with_reducible exact impl_writerAt.mono _ _ _)
      | (with_reducible exact LeO.refl _)
      | (with_reducible exact LeO.none _)
      | (with_reducible refine LeO.ite ?_ ?_)
      | (with_reducible refine LeO.bind ?_ (fun _ => ?_))
      | exact ih0 _ _ _ _ _
      | exact ih1 _ _ _ _ _ _ _ _
      | exact ih2 _ _ _ _ _ _ _ _ _ _ _ _ _ _
      | exact impl_areOps.mono _ _
      | exact impl_writerAt.mono _ _ _
      | exact LeO.none _
      | refine LeO.ite ?_ ?_
      | refine LeO.bind ?_ (fun _ => ?_)
theorem impl_RecoverableOf.mono : ∀ a0 k, LeO (impl_RecoverableOf.f k a0) (impl_RecoverableOf.f (k + 1) a0) := by
  intro a0 k
  obtain ⟨ih0, ih1, ih2⟩ := impl_RecoverableOf.mono_l k
  unfold impl_RecoverableOf.f
  repeat' first
      | (with_reducible exact ih0 _ _ _ _ _)
      | (with_reducible exact ih1 _ _ _ _ _ _ _ _)
      | (with_reducible exact ih2 _ _ _ _ _ _ _ _ _ _ _ _ _ _)
      | (with_reducible exact impl_areOps.mono _ _)
      | (with_reducible exact impl_writerAt.mono _ _ _)
      | (with_reducible exact LeO.refl _)
      | (with_reducible exact LeO.none _)
      | (with_reducible refine LeO.ite ?_ ?_)
      | (with_reducible refine LeO.bind ?_ (fun _ => ?_))
      | exact ih0 _ _ _ _ _
      | exact ih1 _ _ _ _ _ _ _ _
      | exact ih2 _ _ _ _ _ _ _ _ _ _ _ _ _ _
      | exact impl_areOps.mono _ _
      | exact impl_writerAt.mono _ _ _
      | exact LeO.none _
      | refine LeO.ite ?_ ?_
      | refine LeO.bind ?_ (fun _ => ?_)
set_option maxHeartbeats 8000000 in
set_option maxRecDepth 100000 in
theorem impl_RecoverableOf.calls (k : Nat) (A0 : Option Addr) (c0 : Nat) (l0 : List (S59)) (r1 : Bool) (r2 : Bool) (r3 : Bool) (r4 : Bool) (w : World) (hr0 : Kd.C k59 w A0 l0.length l0) (hc0 : l0.length ≤ c0) (h : impl_RecoverableOf.f k l0 = some (r1, r2, r3, r4)) :
    Calls Tryd.prog 17 #[.slice A0 l0.length c0] w fun e w' => e = .returned (.tuple #[.bool r1, .bool r2, .bool r3, .bool r4]) ∧ Below w.heap.size w w' := by
  have hu59 := Tryd.underlying59
  have HR0 := Aside0.mk hr0
  have HC0 := Aside0.mk hc0
  clear hr0 hc0
  have HB := Aside0.mk (Below.refl w.heap.size w)
  have H : ((impl_areOps.f k l0).bind fun t159 => (if t159 = true then (impl_RecoverableOf.l0 k l0 l0 (l0.length : Int) 0 ([] : List (Int × Int))) else (some (false, false, false, false)))) = some (r1, r2, r3, r4) := h
  clear h
  replace H := Option.bind_eq_some_iff.mp H
  obtain ⟨t159, A20, H⟩ := H
  replace H : (if t159 = true then (impl_RecoverableOf.l0 k l0 l0 (l0.length : Int) 0 ([] : List (Int × Int))) else (some (false, false, false, false))) = some (r1, r2, r3, r4) := H
  have A2 := Aside0.mk A20
  clear A20
  by_cases c3 : t159 = true
  · subst c3
    have H1 : (impl_RecoverableOf.l0 k l0 l0 (l0.length : Int) 0 ([] : List (Int × Int))) = some (r1, r2, r3, r4) := by rw [if_pos rfl] at H; exact H
    clear H
    have H := H1
    clear H1
    have H' := Aside0.mk H
    clear H
    go_enter Tryd.func17, Tryd.ntmps17
    go_wp2_with (first | ((with_reducible refine gate_callee (f := 49) rfl ?_); refine goesL_ (some 17) rfl rfl Tryd.func49 (by kernel_rfl) rfl #[.slice A0 l0.length c0] rfl (by (try simp only [List.map_toArray, List.map_cons, List.map_nil]); first | done | rfl | (simp only [List.length_drop, List.length_take]; rfl)) ?_; (with_reducible refine (impl_areOps.calls k _ _ l0 true _ ?side1 ?side2 A2.out).mono ?_); (case side1 => repeat (first | exact HR0.out | (with_reducible refine Kd.C_alloc ?_ _) | (with_reducible refine Kd.C_drewN ?_ _) | (with_reducible refine Kd.C_drew ?_))); (case side2 => exact HC0.out); rintro e w4 ⟨rfl, hb⟩; refine ⟨_, rfl, ?_⟩; have n0_ := Aside0.mk (below_step (by repeat (first | (with_reducible first | exact HB.out | apply below_alloc | apply pw_below_drewN | apply below_drew1) | exact HB.out)) hb); clear HB; have HB := n0_; clear n0_; (try clear hb); (try clear hb2); (try clear hk); (try clear hi)) | ((with_reducible refine gate_dst (N := 19) rfl ?_); (try (refine gate_guard (by rfl) ?_; dsimp only)); refine map_event (Value.int .i64) (Value.int .i64) ?hg (N := 19) ?hd 66 ?ho ?_; (case hd => rfl); (case hg => rfl); (case ho => rfl); intro gb160 hg w5 hbox hb; have n0_ := Aside0.mk (below_step (by repeat (first | (with_reducible first | exact HB.out | apply below_alloc | apply pw_below_drewN | apply below_drew1) | exact HB.out)) hb); have n1_ := Aside0.mk (hbox); have n2_ := Aside0.mk ((by rw [hg]; exact (below_size (by repeat (first | (with_reducible first | exact HB.out | apply below_alloc | apply pw_below_drewN | apply below_drew1) | exact HB.out))) : w.heap.size ≤ gb160)); have n3_ := Aside0.mk ((by rw [hg]; exact (below_size (by repeat (first | (with_reducible first | exact HB.out | apply below_alloc | apply pw_below_drewN | apply below_drew1) | exact HB.out))) : w.heap.size ≤ gb160)); clear HB; have HB := n0_; have BK160 := n1_; have GW160 := n2_; have GE160 := n3_; clear n0_ n1_ n2_ n3_; clear hb hbox hg))
    go_loopg [22] k (fun kq v22 w' => ∃ (x22_1 : Int) (x161000_1 : List (Int × Int)), v22 = .int .i64 x22_1 ∧ Aside0 (impl_RecoverableOf.l0 kq l0 l0 (l0.length : Int) x22_1 x161000_1 = some (r1, r2, r3, r4)) ∧ Aside0 (kq ≤ k) ∧ Aside0 (w'.heap[gb160]? = some (mapObj (Value.int .i64) (Value.int .i64) x161000_1)) ∧ Aside0 (Below w.heap.size w w'))
    case atStart => exact ⟨(0), (([] : List (Int × Int))), (by first | rfl | (simp; done) | (simp [*]; done)), H', ⟨Nat.le_refl _⟩, ⟨by (with_reducible repeat (first | refine blk_drewN ?_ _ | refine blk_drew ?_ | refine blk_alloc ?_ _)); exact BK160.out⟩, ⟨by repeat (first | (with_reducible first | exact HB.out | apply below_alloc | apply pw_below_drewN | apply below_drew1 | refine below_set ?_ GE160.out) | exact HB.out)⟩⟩
    case round =>
      clear H'
      try clear c1
      try clear p2
      try clear c3
      try clear c4
      obtain ⟨x22_1, x161000_1, rfl, HA, HK1, BK160, HB⟩ := hrel
      cases gk with
      | zero => exact absurd HA.out (by simp [impl_RecoverableOf.l0])
      | succ k1 =>
        have H := HA.out
        clear HA
        simp only [impl_RecoverableOf.l0] at H
        by_cases c6 : x22_1 < (l0.length : Int)
        · rw [if_pos c6] at H
          have c6b0 : decide (x22_1 < (l0.length : Int)) = true := decide_eq_true c6
          clear c6
          by_cases c7 : 0 ≤ x22_1
          · rw [if_pos c7] at H
            have c7b0 : decide (0 ≤ x22_1) = true := decide_eq_true c7
            clear c7
            by_cases c8 : x22_1 < (l0.length : Int)
            · rw [if_pos c8] at H
              have c8b0 : decide (x22_1 < (l0.length : Int)) = true := decide_eq_true c8
              clear c8
              by_cases c9 : ((rd_T59 l0 x22_1).f0) = 3
              · rw [if_pos c9] at H
                have c9b0 : (((rd_T59 l0 x22_1).f0) == 3) = true := beq_iff_eq.mpr c9
                have c9b1 : (((rd_T59 l0 x22_1).f0) != 3) = false := bne_eq_false_iff_eq.mpr c9
                clear c9
                have H' := Aside0.mk H
                clear H
                have p161 : 0 ≤ (x22_1 : Int) := of_decide_eq_true (by first | (with_reducible assumption) | assumption)
                have q161 : x22_1 < (l0.length : Int) := of_decide_eq_true (by first | (with_reducible assumption) | assumption)
                obtain ⟨ad161, e161, hx161_0, hx161_1, hx161_2⟩ := at_T59 HR0.out x22_1 p161 q161
                cases e161
                replace hx161_0 := (HB.out.cell (World.block_lt_of_cell? w _ hx161_0)).trans hx161_0
                replace hx161_1 := (HB.out.cell (World.block_lt_of_cell? w _ hx161_1)).trans hx161_1
                replace hx161_2 := (HB.out.cell (World.block_lt_of_cell? w _ hx161_2)).trans hx161_2
                replace p161 := eq_true p161
                replace q161 := eq_true q161
                go_wp2_with (first | ((with_reducible refine gate_dst (N := 8) rfl ?_); (try (refine gate_guard (by rfl) ?_; dsimp only)); refine box_event ?hg (N := 8) ?hd (cs := #[.int .i64 0, .int .i64 0, .string (⟨#[]⟩ : ByteArray)]) (t := 59) ?hr ?_; (case hd => rfl); (case hg => rfl); (case hr => first | (go_simp; done) | (go_simp; rfl)); intro gb162 hg w10 hbox hb; have n0_ := Aside0.mk (blk_below (g := gb160) (o := mapObj (Value.int .i64) (Value.int .i64) x161000_1) (by (with_reducible repeat (first | refine blk_drewN ?_ _ | refine blk_drew ?_ | refine blk_alloc ?_ _)); exact BK160.out) hb); have n1_ := Aside0.mk (below_step (by repeat (first | (with_reducible first | exact HB.out | apply below_alloc | apply pw_below_drewN | apply below_drew1 | refine below_set ?_ GE160.out) | exact HB.out)) hb); have n2_ := Aside0.mk (hbox); have n3_ := Aside0.mk ((by rw [hg]; exact (below_size (by repeat (first | (with_reducible first | exact HB.out | apply below_alloc | apply pw_below_drewN | apply below_drew1 | refine below_set ?_ GE160.out) | exact HB.out))) : w.heap.size ≤ gb162)); have n4_ := Aside0.mk ((by rw [hg]; exact (below_size (by repeat (first | (with_reducible first | exact HB.out | apply below_alloc | apply pw_below_drewN | apply below_drew1 | refine below_set ?_ GE160.out) | exact HB.out))) : w.heap.size ≤ gb162)); have n5_ := Aside0.mk ((by rw [hg]; exact Nat.ne_of_lt (blk_lt (g := gb160) (o := mapObj (Value.int .i64) (Value.int .i64) x161000_1) (by (with_reducible repeat (first | refine blk_drewN ?_ _ | refine blk_drew ?_ | refine blk_alloc ?_ _)); exact BK160.out)) : gb160 ≠ gb162)); have n6_ := Aside0.mk ((by rw [hg]; exact Nat.ne_of_gt (blk_lt (g := gb160) (o := mapObj (Value.int .i64) (Value.int .i64) x161000_1) (by (with_reducible repeat (first | refine blk_drewN ?_ _ | refine blk_drew ?_ | refine blk_alloc ?_ _)); exact BK160.out)) : gb162 ≠ gb160)); clear BK160; clear HB; have BK160 := n0_; have HB := n1_; have BK162 := n2_; have GW162 := n3_; have GE162 := n4_; have NB160_162 := n5_; have NB162_160 := n6_; clear n0_ n1_ n2_ n3_ n4_ n5_ n6_; clear hb hbox hg; have hnb11 := NB162_160.out; have hnc11 := NB160_162.out; have hcz12_0 : w10.cell? ⟨gb162, 0, none⟩ = some (.int .i64 0) := (blk_cell BK162.out 0).trans rfl; have hcz12_1 : w10.cell? ⟨gb162, 1, none⟩ = some (.int .i64 0) := (blk_cell BK162.out 1).trans rfl; have hcz12_2 : w10.cell? ⟨gb162, 2, none⟩ = some (.string (⟨#[]⟩ : ByteArray)) := (blk_cell BK162.out 2).trans rfl; have hfz12_0 := blk_frozen BK162.out 0; have hfz12_1 := blk_frozen BK162.out 1; have hfz12_2 := blk_frozen BK162.out 2) | ((with_reducible refine gate_mput (t := 66) ⟨_, _, _, rfl⟩ ?_); refine mput_event (ek := (Value.int .i64)) (ev := (Value.int .i64)) ?hg 66 3 3 (b := gb160) (m := x161000_1) ((rd_T59 l0 x22_1).f1) x22_1 ?ho Tryd.underlying66 (mapKey_int Tryd.underlying3) ?hn ?hb ?_; (case ho => exact ⟨_, _, _, rfl, rfl, rfl, rfl⟩); (case hg => rfl); (case hn => rfl); (case hb => exact (by (with_reducible repeat (first | refine blk_drewN ?_ _ | refine blk_drew ?_ | refine blk_alloc ?_ _)); refine obj_far ?_ NB160_162.out _; (with_reducible repeat (first | refine blk_drewN ?_ _ | refine blk_drew ?_ | refine blk_alloc ?_ _)); refine obj_far ?_ NB160_162.out _; (with_reducible repeat (first | refine blk_drewN ?_ _ | refine blk_drew ?_ | refine blk_alloc ?_ _)); refine obj_far ?_ NB160_162.out _; (with_reducible repeat (first | refine blk_drewN ?_ _ | refine blk_drew ?_ | refine blk_alloc ?_ _)); exact BK160.out)); intro w13 hp_ hg; have n0_ := Aside0.mk (hp_); have n1_ := Aside0.mk (blk_grown (g := gb162) (o := .cells #[.int .i64 ((rd_T59 l0 x22_1).f0), .int .i64 ((rd_T59 l0 x22_1).f1), .string ((rd_T59 l0 x22_1).f2)] 59 (0, 0)) (by (with_reducible repeat (first | refine blk_drewN ?_ _ | refine blk_drew ?_ | refine blk_alloc ?_ _)); refine blk_put (cs := #[.int .i64 ((rd_T59 l0 x22_1).f0), .int .i64 ((rd_T59 l0 x22_1).f1), .string (⟨#[]⟩ : ByteArray)]) ?_ 2 _ rfl; (with_reducible repeat (first | refine blk_drewN ?_ _ | refine blk_drew ?_ | refine blk_alloc ?_ _)); refine blk_put (cs := #[.int .i64 ((rd_T59 l0 x22_1).f0), .int .i64 0, .string (⟨#[]⟩ : ByteArray)]) ?_ 1 _ rfl; (with_reducible repeat (first | refine blk_drewN ?_ _ | refine blk_drew ?_ | refine blk_alloc ?_ _)); refine blk_put (cs := #[.int .i64 0, .int .i64 0, .string (⟨#[]⟩ : ByteArray)]) ?_ 0 _ rfl; (with_reducible repeat (first | refine blk_drewN ?_ _ | refine blk_drew ?_ | refine blk_alloc ?_ _)); exact BK162.out) hg (fun e_ => NB162_160.out (Option.some.inj e_))); have n2_ := Aside0.mk (below_put (by repeat (first | (with_reducible first | exact HB.out | apply below_alloc | apply pw_below_drewN | apply below_drew1 | refine below_set ?_ GE160.out | refine below_set ?_ GE162.out) | exact HB.out)) hg GW160.out); clear BK160; clear BK162; clear HB; have BK160 := n0_; have BK162 := n1_; have HB := n2_; clear n0_ n1_ n2_; clear hp_ hg))
                go_roundg k1
                case measure => have := HK1.out; omega
                case rel => exact ⟨(wrap64 (x22_1 + 1)), (mput x161000_1 ((rd_T59 l0 x22_1).f1) x22_1), (by first | rfl | (simp; done) | (simp [*]; done)), H', ⟨by have := HK1.out; omega⟩, ⟨by (with_reducible repeat (first | refine blk_drewN ?_ _ | refine blk_drew ?_ | refine blk_alloc ?_ _)); exact BK160.out⟩, ⟨by repeat (first | (with_reducible first | exact HB.out | apply below_alloc | apply pw_below_drewN | apply below_drew1 | refine below_set ?_ GE160.out | refine below_set ?_ GE162.out) | exact HB.out)⟩⟩
              · rw [if_neg c9] at H
                have c9b0 : (((rd_T59 l0 x22_1).f0) == 3) = false := beq_eq_false_iff_ne.mpr c9
                have c9b1 : (((rd_T59 l0 x22_1).f0) != 3) = true := bne_iff_ne.mpr c9
                have H' := Aside0.mk H
                clear H
                have p161 : 0 ≤ (x22_1 : Int) := of_decide_eq_true (by first | (with_reducible assumption) | assumption)
                have q161 : x22_1 < (l0.length : Int) := of_decide_eq_true (by first | (with_reducible assumption) | assumption)
                obtain ⟨ad161, e161, hx161_0, hx161_1, hx161_2⟩ := at_T59 HR0.out x22_1 p161 q161
                cases e161
                replace hx161_0 := (HB.out.cell (World.block_lt_of_cell? w _ hx161_0)).trans hx161_0
                replace hx161_1 := (HB.out.cell (World.block_lt_of_cell? w _ hx161_1)).trans hx161_1
                replace hx161_2 := (HB.out.cell (World.block_lt_of_cell? w _ hx161_2)).trans hx161_2
                replace p161 := eq_true p161
                replace q161 := eq_true q161
                go_wp2_with (first | ((with_reducible refine gate_dst (N := 8) rfl ?_); (try (refine gate_guard (by rfl) ?_; dsimp only)); refine box_event ?hg (N := 8) ?hd (cs := #[.int .i64 0, .int .i64 0, .string (⟨#[]⟩ : ByteArray)]) (t := 59) ?hr ?_; (case hd => rfl); (case hg => rfl); (case hr => first | (go_simp; done) | (go_simp; rfl)); intro gb162 hg w14 hbox hb; have n0_ := Aside0.mk (blk_below (g := gb160) (o := mapObj (Value.int .i64) (Value.int .i64) x161000_1) (by (with_reducible repeat (first | refine blk_drewN ?_ _ | refine blk_drew ?_ | refine blk_alloc ?_ _)); exact BK160.out) hb); have n1_ := Aside0.mk (below_step (by repeat (first | (with_reducible first | exact HB.out | apply below_alloc | apply pw_below_drewN | apply below_drew1 | refine below_set ?_ GE160.out) | exact HB.out)) hb); have n2_ := Aside0.mk (hbox); have n3_ := Aside0.mk ((by rw [hg]; exact (below_size (by repeat (first | (with_reducible first | exact HB.out | apply below_alloc | apply pw_below_drewN | apply below_drew1 | refine below_set ?_ GE160.out) | exact HB.out))) : w.heap.size ≤ gb162)); have n4_ := Aside0.mk ((by rw [hg]; exact (below_size (by repeat (first | (with_reducible first | exact HB.out | apply below_alloc | apply pw_below_drewN | apply below_drew1 | refine below_set ?_ GE160.out) | exact HB.out))) : w.heap.size ≤ gb162)); have n5_ := Aside0.mk ((by rw [hg]; exact Nat.ne_of_lt (blk_lt (g := gb160) (o := mapObj (Value.int .i64) (Value.int .i64) x161000_1) (by (with_reducible repeat (first | refine blk_drewN ?_ _ | refine blk_drew ?_ | refine blk_alloc ?_ _)); exact BK160.out)) : gb160 ≠ gb162)); have n6_ := Aside0.mk ((by rw [hg]; exact Nat.ne_of_gt (blk_lt (g := gb160) (o := mapObj (Value.int .i64) (Value.int .i64) x161000_1) (by (with_reducible repeat (first | refine blk_drewN ?_ _ | refine blk_drew ?_ | refine blk_alloc ?_ _)); exact BK160.out)) : gb162 ≠ gb160)); clear BK160; clear HB; have BK160 := n0_; have HB := n1_; have BK162 := n2_; have GW162 := n3_; have GE162 := n4_; have NB160_162 := n5_; have NB162_160 := n6_; clear n0_ n1_ n2_ n3_ n4_ n5_ n6_; clear hb hbox hg; have hnb15 := NB162_160.out; have hnc15 := NB160_162.out; have hcz16_0 : w14.cell? ⟨gb162, 0, none⟩ = some (.int .i64 0) := (blk_cell BK162.out 0).trans rfl; have hcz16_1 : w14.cell? ⟨gb162, 1, none⟩ = some (.int .i64 0) := (blk_cell BK162.out 1).trans rfl; have hcz16_2 : w14.cell? ⟨gb162, 2, none⟩ = some (.string (⟨#[]⟩ : ByteArray)) := (blk_cell BK162.out 2).trans rfl; have hfz16_0 := blk_frozen BK162.out 0; have hfz16_1 := blk_frozen BK162.out 1; have hfz16_2 := blk_frozen BK162.out 2))
                go_roundg k1
                case measure => have := HK1.out; omega
                case rel => exact ⟨(wrap64 (x22_1 + 1)), (x161000_1), (by first | rfl | (simp; done) | (simp [*]; done)), H', ⟨by have := HK1.out; omega⟩, ⟨by (with_reducible repeat (first | refine blk_drewN ?_ _ | refine blk_drew ?_ | refine blk_alloc ?_ _)); refine obj_far ?_ NB160_162.out _; (with_reducible repeat (first | refine blk_drewN ?_ _ | refine blk_drew ?_ | refine blk_alloc ?_ _)); refine obj_far ?_ NB160_162.out _; (with_reducible repeat (first | refine blk_drewN ?_ _ | refine blk_drew ?_ | refine blk_alloc ?_ _)); refine obj_far ?_ NB160_162.out _; (with_reducible repeat (first | refine blk_drewN ?_ _ | refine blk_drew ?_ | refine blk_alloc ?_ _)); exact BK160.out⟩, ⟨by repeat (first | (with_reducible first | exact HB.out | apply below_alloc | apply pw_below_drewN | apply below_drew1 | refine below_set ?_ GE160.out | refine below_set ?_ GE162.out) | exact HB.out)⟩⟩
            · rw [if_neg c8] at H
              exact absurd H (by simp)
          · rw [if_neg c7] at H
            exact absurd H (by simp)
        · rw [if_neg c6] at H
          have c6b0 : decide (x22_1 < (l0.length : Int)) = false := decide_eq_false c6
          clear c6
          have H' := Aside0.mk H
          clear H
          go_wp2
          go_loopg [9, 10, 11, 37] k1 (fun kq v9 v10 v11 v37 w' => ∃ (x9_2 : Bool) (x10_2 : Bool) (x11_2 : Bool) (x37_2 : Int), v9 = .bool x9_2 ∧ v10 = .bool x10_2 ∧ v11 = .bool x11_2 ∧ v37 = .int .i64 x37_2 ∧ Aside0 (impl_RecoverableOf.l1 kq l0 x9_2 x10_2 x11_2 l0 (l0.length : Int) x37_2 x161000_1 = some (r1, r2, r3, r4)) ∧ Aside0 (kq ≤ k1) ∧ Aside0 (w'.heap[gb160]? = some (mapObj (Value.int .i64) (Value.int .i64) x161000_1)) ∧ Aside0 (Below w.heap.size w w'))
          case atStart => exact ⟨(true), (true), (true), (0), (by first | rfl | (simp; done) | (simp [*]; done)), (by first | rfl | (simp; done) | (simp [*]; done)), (by first | rfl | (simp; done) | (simp [*]; done)), (by first | rfl | (simp; done) | (simp [*]; done)), H', ⟨Nat.le_refl _⟩, ⟨by (with_reducible repeat (first | refine blk_drewN ?_ _ | refine blk_drew ?_ | refine blk_alloc ?_ _)); exact BK160.out⟩, ⟨by repeat (first | (with_reducible first | exact HB.out | apply below_alloc | apply pw_below_drewN | apply below_drew1 | refine below_set ?_ GE160.out) | exact HB.out)⟩⟩
          case round =>
            clear H'
            try clear c1
            try clear p1
            try clear q1
            try clear hx1
            try clear p2
            try clear c3
            try clear c4
            try clear c6
            try clear c6b0
            try clear p6
            try clear c7
            try clear c7b0
            try clear c8
            try clear c8b0
            try clear c9
            try clear c9b0
            try clear c9b1
            try clear c11
            try clear c15
            try clear p16
            try clear q16
            try clear hx16
            try clear hcz12_0
            try clear hcz12_1
            try clear hcz12_2
            try clear hcz16_0
            try clear hcz16_1
            try clear hcz16_2
            try clear hfz12_0
            try clear hfz12_1
            try clear hfz12_2
            try clear hfz16_0
            try clear hfz16_1
            try clear hfz16_2
            try clear hx161_0
            try clear hx161_1
            try clear hx161_2
            try clear p161
            try clear p2
            try clear q161
            obtain ⟨x9_2, x10_2, x11_2, x37_2, rfl, rfl, rfl, rfl, HA, HK2, BK160, HB⟩ := hrel
            cases gk with
            | zero => exact absurd HA.out (by simp [impl_RecoverableOf.l1])
            | succ k2 =>
              have H := HA.out
              clear HA
              simp only [impl_RecoverableOf.l1] at H
              by_cases c17 : x37_2 < (l0.length : Int)
              · rw [if_pos c17] at H
                have c17b0 : decide (x37_2 < (l0.length : Int)) = true := decide_eq_true c17
                clear c17
                by_cases c18 : 0 ≤ x37_2
                · rw [if_pos c18] at H
                  have c18b0 : decide (0 ≤ x37_2) = true := decide_eq_true c18
                  clear c18
                  by_cases c19 : x37_2 < (l0.length : Int)
                  · rw [if_pos c19] at H
                    have c19b0 : decide (x37_2 < (l0.length : Int)) = true := decide_eq_true c19
                    clear c19
                    replace H := Option.bind_eq_some_iff.mp H
                    obtain ⟨t165, A200, H⟩ := H
                    replace H : (if ((rd_T59 l0 x37_2).f0) = 3 then (impl_RecoverableOf.j2 k2 l0 x9_2 x10_2 x11_2 x37_2 t165 l0 (l0.length : Int) x37_2 true x161000_1 ((rd_T59 l0 x37_2).f0) ((rd_T59 l0 x37_2).f1) ((rd_T59 l0 x37_2).f2)) else (if t165 = 0 then (impl_RecoverableOf.j2 k2 l0 x9_2 x10_2 x11_2 x37_2 t165 l0 (l0.length : Int) x37_2 true x161000_1 ((rd_T59 l0 x37_2).f0) ((rd_T59 l0 x37_2).f1) ((rd_T59 l0 x37_2).f2)) else (impl_RecoverableOf.j2 k2 l0 x9_2 x10_2 x11_2 x37_2 t165 l0 (l0.length : Int) x37_2 (t165 == ((rd_T59 l0 x37_2).f1)) x161000_1 ((rd_T59 l0 x37_2).f0) ((rd_T59 l0 x37_2).f1) ((rd_T59 l0 x37_2).f2)))) = some (r1, r2, r3, r4) := H
                    have A20 := Aside0.mk A200
                    clear A200
                    have HC21 := Aside0.mk H
                    clear H
                    have p163 : 0 ≤ (x37_2 : Int) := of_decide_eq_true (by first | (with_reducible assumption) | assumption)
                    have q163 : x37_2 < (l0.length : Int) := of_decide_eq_true (by first | (with_reducible assumption) | assumption)
                    obtain ⟨ad163, e163, hx163_0, hx163_1, hx163_2⟩ := at_T59 HR0.out x37_2 p163 q163
                    cases e163
                    replace hx163_0 := (HB.out.cell (World.block_lt_of_cell? w _ hx163_0)).trans hx163_0
                    replace hx163_1 := (HB.out.cell (World.block_lt_of_cell? w _ hx163_1)).trans hx163_1
                    replace hx163_2 := (HB.out.cell (World.block_lt_of_cell? w _ hx163_2)).trans hx163_2
                    replace p163 := eq_true p163
                    replace q163 := eq_true q163
                    go_upto_region 15 with (first | ((with_reducible refine gate_dst (N := 13) rfl ?_); (try (refine gate_guard (by rfl) ?_; dsimp only)); refine box_event ?hg (N := 13) ?hd (cs := #[.int .i64 0, .int .i64 0, .string (⟨#[]⟩ : ByteArray)]) (t := 59) ?hr ?_; (case hd => rfl); (case hg => rfl); (case hr => first | (go_simp; done) | (go_simp; rfl)); intro gb164 hg w22 hbox hb; have n0_ := Aside0.mk (blk_below (g := gb160) (o := mapObj (Value.int .i64) (Value.int .i64) x161000_1) (by (with_reducible repeat (first | refine blk_drewN ?_ _ | refine blk_drew ?_ | refine blk_alloc ?_ _)); exact BK160.out) hb); have n1_ := Aside0.mk (below_step (by repeat (first | (with_reducible first | exact HB.out | apply below_alloc | apply pw_below_drewN | apply below_drew1 | refine below_set ?_ GE160.out) | exact HB.out)) hb); have n2_ := Aside0.mk (hbox); have n3_ := Aside0.mk ((by rw [hg]; exact (below_size (by repeat (first | (with_reducible first | exact HB.out | apply below_alloc | apply pw_below_drewN | apply below_drew1 | refine below_set ?_ GE160.out) | exact HB.out))) : w.heap.size ≤ gb164)); have n4_ := Aside0.mk ((by rw [hg]; exact (below_size (by repeat (first | (with_reducible first | exact HB.out | apply below_alloc | apply pw_below_drewN | apply below_drew1 | refine below_set ?_ GE160.out) | exact HB.out))) : w.heap.size ≤ gb164)); have n5_ := Aside0.mk ((by rw [hg]; exact Nat.ne_of_lt (blk_lt (g := gb160) (o := mapObj (Value.int .i64) (Value.int .i64) x161000_1) (by (with_reducible repeat (first | refine blk_drewN ?_ _ | refine blk_drew ?_ | refine blk_alloc ?_ _)); exact BK160.out)) : gb160 ≠ gb164)); have n6_ := Aside0.mk ((by rw [hg]; exact Nat.ne_of_gt (blk_lt (g := gb160) (o := mapObj (Value.int .i64) (Value.int .i64) x161000_1) (by (with_reducible repeat (first | refine blk_drewN ?_ _ | refine blk_drew ?_ | refine blk_alloc ?_ _)); exact BK160.out)) : gb164 ≠ gb160)); clear BK160; clear HB; have BK160 := n0_; have HB := n1_; have BK164 := n2_; have GW164 := n3_; have GE164 := n4_; have NB160_164 := n5_; have NB164_160 := n6_; clear n0_ n1_ n2_ n3_ n4_ n5_ n6_; clear hb hbox hg; have hnb23 := NB164_160.out; have hnc23 := NB160_164.out; have hcz24_0 : w22.cell? ⟨gb164, 0, none⟩ = some (.int .i64 0) := (blk_cell BK164.out 0).trans rfl; have hcz24_1 : w22.cell? ⟨gb164, 1, none⟩ = some (.int .i64 0) := (blk_cell BK164.out 1).trans rfl; have hcz24_2 : w22.cell? ⟨gb164, 2, none⟩ = some (.string (⟨#[]⟩ : ByteArray)) := (blk_cell BK164.out 2).trans rfl; have hfz24_0 := blk_frozen BK164.out 0; have hfz24_1 := blk_frozen BK164.out 1; have hfz24_2 := blk_frozen BK164.out 2) | ((with_reducible refine gate_callee (f := 53) rfl ?_); refine goesL_ (some 44) rfl rfl Tryd.func53 (by kernel_rfl) rfl #[.slice (some ad163) l0.length c0, .int .i64 x37_2] rfl (by (try simp only [List.map_toArray, List.map_cons, List.map_nil]); first | done | rfl | (simp only [List.length_drop, List.length_take]; rfl)) ?_; (with_reducible refine (impl_writerAt.calls k2 _ _ l0 x37_2 t165 _ ?side1 ?side2 A20.out).mono ?_); (case side1 => exact Kd.C_below HR0.out (by repeat (first | (with_reducible first | exact HB.out | apply below_alloc | apply pw_below_drewN | apply below_drew1 | refine below_set ?_ GE160.out | refine below_set ?_ GE164.out) | exact HB.out))); (case side2 => exact HC0.out); rintro e w' ⟨rfl, ⟨nd, rfl⟩⟩; refine ⟨_, rfl, ?_⟩))
                    (try simp only [Act.put, List.setIfInBounds_toArray, List.set_cons_zero, List.set_cons_succ])
                    go_cut [57] (fun v57 wc => ∃ (kq : Nat) (x57_20 : Bool), v57 = .bool x57_20 ∧ Aside0 (impl_RecoverableOf.j2 kq l0 x9_2 x10_2 x11_2 x37_2 t165 l0 (l0.length : Int) x37_2 x57_20 x161000_1 ((rd_T59 l0 x37_2).f0) ((rd_T59 l0 x37_2).f1) ((rd_T59 l0 x37_2).f2) = some (r1, r2, r3, r4)) ∧ Aside0 (kq ≤ k2) ∧ Aside0 (wc.heap[gb160]? = some (mapObj (Value.int .i64) (Value.int .i64) x161000_1)) ∧ Aside0 (wc.heap[gb164]? = some (.cells #[.int .i64 ((rd_T59 l0 x37_2).f0), .int .i64 ((rd_T59 l0 x37_2).f1), .string ((rd_T59 l0 x37_2).f2)] 59 (0, 0))) ∧ Aside0 (Below w.heap.size w wc))
                    case first =>
                      have H := HC21.out
                      clear HC21
                      by_cases c25 : ((rd_T59 l0 x37_2).f0) = 3
                      · rw [if_pos c25] at H
                        have c25b0 : (((rd_T59 l0 x37_2).f0) == 3) = true := beq_iff_eq.mpr c25
                        have c25b1 : (((rd_T59 l0 x37_2).f0) != 3) = false := bne_eq_false_iff_eq.mpr c25
                        clear c25
                        (first | rw [c25b0] | (simp only [i64_w, i32_w]; rw [c25b0]) | skip)
                        have H' := Aside0.mk H
                        clear H
                        have hnb26 := NB164_160.out
                        have hnc26 := NB160_164.out
                        have hcz27_0 : w22.cell? ⟨gb164, 0, none⟩ = some (.int .i64 0) := (blk_cell BK164.out 0).trans rfl
                        have hcz27_1 : w22.cell? ⟨gb164, 1, none⟩ = some (.int .i64 0) := (blk_cell BK164.out 1).trans rfl
                        have hcz27_2 : w22.cell? ⟨gb164, 2, none⟩ = some (.string (⟨#[]⟩ : ByteArray)) := (blk_cell BK164.out 2).trans rfl
                        have hfz27_0 := blk_frozen BK164.out 0
                        have hfz27_1 := blk_frozen BK164.out 1
                        have hfz27_2 := blk_frozen BK164.out 2
                        go_wp2
                        go_meet
                        case rel => exact ⟨_, (true), (by first | rfl | (simp; done) | (simp [*]; done)), H', ⟨by have := HK1.out; have := HK2.out; first | omega | exact Nat.le_refl _⟩, ⟨by (with_reducible repeat (first | refine blk_drewN ?_ _ | refine blk_drew ?_ | refine blk_alloc ?_ _)); refine obj_far ?_ NB160_164.out _; (with_reducible repeat (first | refine blk_drewN ?_ _ | refine blk_drew ?_ | refine blk_alloc ?_ _)); refine obj_far ?_ NB160_164.out _; (with_reducible repeat (first | refine blk_drewN ?_ _ | refine blk_drew ?_ | refine blk_alloc ?_ _)); refine obj_far ?_ NB160_164.out _; (with_reducible repeat (first | refine blk_drewN ?_ _ | refine blk_drew ?_ | refine blk_alloc ?_ _)); exact BK160.out⟩, ⟨by (with_reducible repeat (first | refine blk_drewN ?_ _ | refine blk_drew ?_ | refine blk_alloc ?_ _)); refine blk_put (cs := #[.int .i64 ((rd_T59 l0 x37_2).f0), .int .i64 ((rd_T59 l0 x37_2).f1), .string (⟨#[]⟩ : ByteArray)]) ?_ 2 _ rfl; (with_reducible repeat (first | refine blk_drewN ?_ _ | refine blk_drew ?_ | refine blk_alloc ?_ _)); refine blk_put (cs := #[.int .i64 ((rd_T59 l0 x37_2).f0), .int .i64 0, .string (⟨#[]⟩ : ByteArray)]) ?_ 1 _ rfl; (with_reducible repeat (first | refine blk_drewN ?_ _ | refine blk_drew ?_ | refine blk_alloc ?_ _)); refine blk_put (cs := #[.int .i64 0, .int .i64 0, .string (⟨#[]⟩ : ByteArray)]) ?_ 0 _ rfl; (with_reducible repeat (first | refine blk_drewN ?_ _ | refine blk_drew ?_ | refine blk_alloc ?_ _)); exact BK164.out⟩, ⟨by repeat (first | (with_reducible first | exact HB.out | apply below_alloc | apply pw_below_drewN | apply below_drew1 | refine below_set ?_ GE160.out | refine below_set ?_ GE164.out) | exact HB.out)⟩⟩
                      · rw [if_neg c25] at H
                        have c25b0 : (((rd_T59 l0 x37_2).f0) == 3) = false := beq_eq_false_iff_ne.mpr c25
                        have c25b1 : (((rd_T59 l0 x37_2).f0) != 3) = true := bne_iff_ne.mpr c25
                        (first | rw [c25b0] | (simp only [i64_w, i32_w]; rw [c25b0]) | skip)
                        by_cases c28 : t165 = 0
                        · rw [if_pos c28] at H
                          have c28b0 : (t165 == 0) = true := beq_iff_eq.mpr c28
                          have c28b1 : (t165 != 0) = false := bne_eq_false_iff_eq.mpr c28
                          clear c28
                          have H' := Aside0.mk H
                          clear H
                          have hnb29 := NB164_160.out
                          have hnc29 := NB160_164.out
                          have hcz30_0 : w22.cell? ⟨gb164, 0, none⟩ = some (.int .i64 0) := (blk_cell BK164.out 0).trans rfl
                          have hcz30_1 : w22.cell? ⟨gb164, 1, none⟩ = some (.int .i64 0) := (blk_cell BK164.out 1).trans rfl
                          have hcz30_2 : w22.cell? ⟨gb164, 2, none⟩ = some (.string (⟨#[]⟩ : ByteArray)) := (blk_cell BK164.out 2).trans rfl
                          have hfz30_0 := blk_frozen BK164.out 0
                          have hfz30_1 := blk_frozen BK164.out 1
                          have hfz30_2 := blk_frozen BK164.out 2
                          go_wp2
                          go_meet
                          case rel => exact ⟨_, (true), (by first | rfl | (simp; done) | (simp [*]; done)), H', ⟨by have := HK1.out; have := HK2.out; first | omega | exact Nat.le_refl _⟩, ⟨by (with_reducible repeat (first | refine blk_drewN ?_ _ | refine blk_drew ?_ | refine blk_alloc ?_ _)); refine obj_far ?_ NB160_164.out _; (with_reducible repeat (first | refine blk_drewN ?_ _ | refine blk_drew ?_ | refine blk_alloc ?_ _)); refine obj_far ?_ NB160_164.out _; (with_reducible repeat (first | refine blk_drewN ?_ _ | refine blk_drew ?_ | refine blk_alloc ?_ _)); refine obj_far ?_ NB160_164.out _; (with_reducible repeat (first | refine blk_drewN ?_ _ | refine blk_drew ?_ | refine blk_alloc ?_ _)); exact BK160.out⟩, ⟨by (with_reducible repeat (first | refine blk_drewN ?_ _ | refine blk_drew ?_ | refine blk_alloc ?_ _)); refine blk_put (cs := #[.int .i64 ((rd_T59 l0 x37_2).f0), .int .i64 ((rd_T59 l0 x37_2).f1), .string (⟨#[]⟩ : ByteArray)]) ?_ 2 _ rfl; (with_reducible repeat (first | refine blk_drewN ?_ _ | refine blk_drew ?_ | refine blk_alloc ?_ _)); refine blk_put (cs := #[.int .i64 ((rd_T59 l0 x37_2).f0), .int .i64 0, .string (⟨#[]⟩ : ByteArray)]) ?_ 1 _ rfl; (with_reducible repeat (first | refine blk_drewN ?_ _ | refine blk_drew ?_ | refine blk_alloc ?_ _)); refine blk_put (cs := #[.int .i64 0, .int .i64 0, .string (⟨#[]⟩ : ByteArray)]) ?_ 0 _ rfl; (with_reducible repeat (first | refine blk_drewN ?_ _ | refine blk_drew ?_ | refine blk_alloc ?_ _)); exact BK164.out⟩, ⟨by repeat (first | (with_reducible first | exact HB.out | apply below_alloc | apply pw_below_drewN | apply below_drew1 | refine below_set ?_ GE160.out | refine below_set ?_ GE164.out) | exact HB.out)⟩⟩
                        · rw [if_neg c28] at H
                          have c28b0 : (t165 == 0) = false := beq_eq_false_iff_ne.mpr c28
                          have c28b1 : (t165 != 0) = true := bne_iff_ne.mpr c28
                          have H' := Aside0.mk H
                          clear H
                          have hnb31 := NB164_160.out
                          have hnc31 := NB160_164.out
                          have hcz32_0 : w22.cell? ⟨gb164, 0, none⟩ = some (.int .i64 0) := (blk_cell BK164.out 0).trans rfl
                          have hcz32_1 : w22.cell? ⟨gb164, 1, none⟩ = some (.int .i64 0) := (blk_cell BK164.out 1).trans rfl
                          have hcz32_2 : w22.cell? ⟨gb164, 2, none⟩ = some (.string (⟨#[]⟩ : ByteArray)) := (blk_cell BK164.out 2).trans rfl
                          have hfz32_0 := blk_frozen BK164.out 0
                          have hfz32_1 := blk_frozen BK164.out 1
                          have hfz32_2 := blk_frozen BK164.out 2
                          go_wp2
                          go_meet
                          case rel => exact ⟨_, ((t165 == ((rd_T59 l0 x37_2).f1))), (by first | rfl | (simp; done) | (simp [*]; done)), H', ⟨by have := HK1.out; have := HK2.out; first | omega | exact Nat.le_refl _⟩, ⟨by (with_reducible repeat (first | refine blk_drewN ?_ _ | refine blk_drew ?_ | refine blk_alloc ?_ _)); refine obj_far ?_ NB160_164.out _; (with_reducible repeat (first | refine blk_drewN ?_ _ | refine blk_drew ?_ | refine blk_alloc ?_ _)); refine obj_far ?_ NB160_164.out _; (with_reducible repeat (first | refine blk_drewN ?_ _ | refine blk_drew ?_ | refine blk_alloc ?_ _)); refine obj_far ?_ NB160_164.out _; (with_reducible repeat (first | refine blk_drewN ?_ _ | refine blk_drew ?_ | refine blk_alloc ?_ _)); exact BK160.out⟩, ⟨by (with_reducible repeat (first | refine blk_drewN ?_ _ | refine blk_drew ?_ | refine blk_alloc ?_ _)); refine blk_put (cs := #[.int .i64 ((rd_T59 l0 x37_2).f0), .int .i64 ((rd_T59 l0 x37_2).f1), .string (⟨#[]⟩ : ByteArray)]) ?_ 2 _ rfl; (with_reducible repeat (first | refine blk_drewN ?_ _ | refine blk_drew ?_ | refine blk_alloc ?_ _)); refine blk_put (cs := #[.int .i64 ((rd_T59 l0 x37_2).f0), .int .i64 0, .string (⟨#[]⟩ : ByteArray)]) ?_ 1 _ rfl; (with_reducible repeat (first | refine blk_drewN ?_ _ | refine blk_drew ?_ | refine blk_alloc ?_ _)); refine blk_put (cs := #[.int .i64 0, .int .i64 0, .string (⟨#[]⟩ : ByteArray)]) ?_ 0 _ rfl; (with_reducible repeat (first | refine blk_drewN ?_ _ | refine blk_drew ?_ | refine blk_alloc ?_ _)); exact BK164.out⟩, ⟨by repeat (first | (with_reducible first | exact HB.out | apply below_alloc | apply pw_below_drewN | apply below_drew1 | refine below_set ?_ GE160.out | refine below_set ?_ GE164.out) | exact HB.out)⟩⟩
                    case rest =>
                      clear HC21
                      try clear c1
                      try clear p1
                      try clear q1
                      try clear hx1
                      try clear c2
                      try clear p2
                      try clear c3
                      try clear c4
                      try clear c5
                      try clear c6
                      try clear c6b0
                      try clear p6
                      try clear c7
                      try clear c7b0
                      try clear c8
                      try clear c8b0
                      try clear c9
                      try clear c9b0
                      try clear c9b1
                      try clear c11
                      try clear c15
                      try clear p16
                      try clear q16
                      try clear hx16
                      try clear c17
                      try clear c17b0
                      try clear c18
                      try clear c18b0
                      try clear c19
                      try clear c19b0
                      try clear c23
                      try clear c25
                      try clear c25b0
                      try clear c25b1
                      try clear c26
                      try clear c28
                      try clear c28b0
                      try clear c28b1
                      try clear c29
                      try clear c31
                      try clear hcz12_0
                      try clear hcz12_1
                      try clear hcz12_2
                      try clear hcz16_0
                      try clear hcz16_1
                      try clear hcz16_2
                      try clear hcz24_0
                      try clear hcz24_1
                      try clear hcz24_2
                      try clear hcz27_0
                      try clear hcz27_1
                      try clear hcz27_2
                      try clear hcz30_0
                      try clear hcz30_1
                      try clear hcz30_2
                      try clear hcz32_0
                      try clear hcz32_1
                      try clear hcz32_2
                      try clear hfz12_0
                      try clear hfz12_1
                      try clear hfz12_2
                      try clear hfz16_0
                      try clear hfz16_1
                      try clear hfz16_2
                      try clear hfz24_0
                      try clear hfz24_1
                      try clear hfz24_2
                      try clear hfz27_0
                      try clear hfz27_1
                      try clear hfz27_2
                      try clear hfz30_0
                      try clear hfz30_1
                      try clear hfz30_2
                      try clear hfz32_0
                      try clear hfz32_1
                      try clear hfz32_2
                      try clear hx161_0
                      try clear hx161_1
                      try clear hx161_2
                      try clear hx163_0
                      try clear hx163_1
                      try clear hx163_2
                      try clear p1
                      try clear p16
                      try clear p161
                      try clear p163
                      try clear p2
                      try clear p6
                      try clear q1
                      try clear q16
                      try clear q161
                      try clear q163
                      obtain ⟨kq, x57_20, rfl, HA, HJ20, BK160, BK164, HB⟩ := hcut
                      cases kq with
                      | zero => exact absurd HA.out (by simp [impl_RecoverableOf.j2])
                      | succ kj20 =>
                        have H := HA.out
                        clear HA
                        simp only [impl_RecoverableOf.j2] at H
                        by_cases c33 : x57_20 = true
                        · subst c33
                          have H1 : (impl_RecoverableOf.l1 kj20 l0 x9_2 x10_2 x11_2 l0 (l0.length : Int) (wrap64 (x37_2 + 1)) x161000_1) = some (r1, r2, r3, r4) := by rw [if_pos rfl] at H; exact H
                          clear H
                          have H := H1
                          clear H1
                          have H' := Aside0.mk H
                          clear H
                          go_wp2
                          go_roundg kj20
                          case measure => have := HK1.out; have := HK2.out; have := HJ20.out; omega
                          case rel => exact ⟨(x9_2), (x10_2), (x11_2), (wrap64 (x37_2 + 1)), (by first | rfl | (simp; done) | (simp [*]; done)), (by first | rfl | (simp; done) | (simp [*]; done)), (by first | rfl | (simp; done) | (simp [*]; done)), (by first | rfl | (simp; done) | (simp [*]; done)), H', ⟨by have := HK1.out; have := HK2.out; have := HJ20.out; omega⟩, ⟨by (with_reducible repeat (first | refine blk_drewN ?_ _ | refine blk_drew ?_ | refine blk_alloc ?_ _)); exact BK160.out⟩, ⟨by repeat (first | (with_reducible first | exact HB.out | apply below_alloc | apply pw_below_drewN | apply below_drew1 | refine below_set ?_ GE160.out | refine below_set ?_ GE164.out) | exact HB.out)⟩⟩
                        · replace c33 := Bool.eq_false_iff.mpr c33
                          subst c33
                          have H1 : (if x11_2 = true then (if ((rd_T59 l0 x37_2).f0) = 1 then (if x9_2 = true then (if x10_2 = true then (impl_RecoverableOf.l1 kj20 l0 (decide ((mgetD x161000_1 t165 0) < (mgetD x161000_1 ((rd_T59 l0 x37_2).f1) 0))) (!(decide ((mgetD x161000_1 t165 0) > x37_2))) (!(decide ((mgetD x161000_1 t165 0) > x37_2))) l0 (l0.length : Int) (wrap64 (x37_2 + 1)) x161000_1) else (impl_RecoverableOf.l1 kj20 l0 (decide ((mgetD x161000_1 t165 0) < (mgetD x161000_1 ((rd_T59 l0 x37_2).f1) 0))) false (!(decide ((mgetD x161000_1 t165 0) > x37_2))) l0 (l0.length : Int) (wrap64 (x37_2 + 1)) x161000_1)) else (if x10_2 = true then (impl_RecoverableOf.l1 kj20 l0 false (!(decide ((mgetD x161000_1 t165 0) > x37_2))) (!(decide ((mgetD x161000_1 t165 0) > x37_2))) l0 (l0.length : Int) (wrap64 (x37_2 + 1)) x161000_1) else (impl_RecoverableOf.l1 kj20 l0 false false (!(decide ((mgetD x161000_1 t165 0) > x37_2))) l0 (l0.length : Int) (wrap64 (x37_2 + 1)) x161000_1))) else (impl_RecoverableOf.l1 kj20 l0 x9_2 x10_2 (!(decide ((mgetD x161000_1 t165 0) > x37_2))) l0 (l0.length : Int) (wrap64 (x37_2 + 1)) x161000_1)) else (if ((rd_T59 l0 x37_2).f0) = 1 then (if x9_2 = true then (if x10_2 = true then (impl_RecoverableOf.l1 kj20 l0 (decide ((mgetD x161000_1 t165 0) < (mgetD x161000_1 ((rd_T59 l0 x37_2).f1) 0))) (!(decide ((mgetD x161000_1 t165 0) > x37_2))) false l0 (l0.length : Int) (wrap64 (x37_2 + 1)) x161000_1) else (impl_RecoverableOf.l1 kj20 l0 (decide ((mgetD x161000_1 t165 0) < (mgetD x161000_1 ((rd_T59 l0 x37_2).f1) 0))) false false l0 (l0.length : Int) (wrap64 (x37_2 + 1)) x161000_1)) else (if x10_2 = true then (impl_RecoverableOf.l1 kj20 l0 false (!(decide ((mgetD x161000_1 t165 0) > x37_2))) false l0 (l0.length : Int) (wrap64 (x37_2 + 1)) x161000_1) else (impl_RecoverableOf.l1 kj20 l0 false false false l0 (l0.length : Int) (wrap64 (x37_2 + 1)) x161000_1))) else (impl_RecoverableOf.l1 kj20 l0 x9_2 x10_2 false l0 (l0.length : Int) (wrap64 (x37_2 + 1)) x161000_1))) = some (r1, r2, r3, r4) := by rw [if_neg (show ¬ (false = true) by decide)] at H; exact H
                          clear H
                          have H := H1
                          clear H1
                          by_cases c34 : x11_2 = true
                          · subst c34
                            have H1 : (if ((rd_T59 l0 x37_2).f0) = 1 then (if x9_2 = true then (if x10_2 = true then (impl_RecoverableOf.l1 kj20 l0 (decide ((mgetD x161000_1 t165 0) < (mgetD x161000_1 ((rd_T59 l0 x37_2).f1) 0))) (!(decide ((mgetD x161000_1 t165 0) > x37_2))) (!(decide ((mgetD x161000_1 t165 0) > x37_2))) l0 (l0.length : Int) (wrap64 (x37_2 + 1)) x161000_1) else (impl_RecoverableOf.l1 kj20 l0 (decide ((mgetD x161000_1 t165 0) < (mgetD x161000_1 ((rd_T59 l0 x37_2).f1) 0))) false (!(decide ((mgetD x161000_1 t165 0) > x37_2))) l0 (l0.length : Int) (wrap64 (x37_2 + 1)) x161000_1)) else (if x10_2 = true then (impl_RecoverableOf.l1 kj20 l0 false (!(decide ((mgetD x161000_1 t165 0) > x37_2))) (!(decide ((mgetD x161000_1 t165 0) > x37_2))) l0 (l0.length : Int) (wrap64 (x37_2 + 1)) x161000_1) else (impl_RecoverableOf.l1 kj20 l0 false false (!(decide ((mgetD x161000_1 t165 0) > x37_2))) l0 (l0.length : Int) (wrap64 (x37_2 + 1)) x161000_1))) else (impl_RecoverableOf.l1 kj20 l0 x9_2 x10_2 (!(decide ((mgetD x161000_1 t165 0) > x37_2))) l0 (l0.length : Int) (wrap64 (x37_2 + 1)) x161000_1)) = some (r1, r2, r3, r4) := by rw [if_pos rfl] at H; exact H
                            clear H
                            have H := H1
                            clear H1
                            by_cases c35 : ((rd_T59 l0 x37_2).f0) = 1
                            · rw [if_pos c35] at H
                              have c35b0 : (((rd_T59 l0 x37_2).f0) == 1) = true := beq_iff_eq.mpr c35
                              have c35b1 : (((rd_T59 l0 x37_2).f0) != 1) = false := bne_eq_false_iff_eq.mpr c35
                              clear c35
                              by_cases c36 : x9_2 = true
                              · subst c36
                                have H1 : (if x10_2 = true then (impl_RecoverableOf.l1 kj20 l0 (decide ((mgetD x161000_1 t165 0) < (mgetD x161000_1 ((rd_T59 l0 x37_2).f1) 0))) (!(decide ((mgetD x161000_1 t165 0) > x37_2))) (!(decide ((mgetD x161000_1 t165 0) > x37_2))) l0 (l0.length : Int) (wrap64 (x37_2 + 1)) x161000_1) else (impl_RecoverableOf.l1 kj20 l0 (decide ((mgetD x161000_1 t165 0) < (mgetD x161000_1 ((rd_T59 l0 x37_2).f1) 0))) false (!(decide ((mgetD x161000_1 t165 0) > x37_2))) l0 (l0.length : Int) (wrap64 (x37_2 + 1)) x161000_1)) = some (r1, r2, r3, r4) := by rw [if_pos rfl] at H; exact H
                                clear H
                                have H := H1
                                clear H1
                                by_cases c37 : x10_2 = true
                                · subst c37
                                  have H1 : (impl_RecoverableOf.l1 kj20 l0 (decide ((mgetD x161000_1 t165 0) < (mgetD x161000_1 ((rd_T59 l0 x37_2).f1) 0))) (!(decide ((mgetD x161000_1 t165 0) > x37_2))) (!(decide ((mgetD x161000_1 t165 0) > x37_2))) l0 (l0.length : Int) (wrap64 (x37_2 + 1)) x161000_1) = some (r1, r2, r3, r4) := by rw [if_pos rfl] at H; exact H
                                  clear H
                                  have H := H1
                                  clear H1
                                  have H' := Aside0.mk H
                                  clear H
                                  have hnb38 := NB164_160.out
                                  have hnc38 := NB160_164.out
                                  have hcz39_0 : wc.cell? ⟨gb164, 0, none⟩ = some (.int .i64 ((rd_T59 l0 x37_2).f0)) := (blk_cell BK164.out 0).trans rfl
                                  have hcz39_1 : wc.cell? ⟨gb164, 1, none⟩ = some (.int .i64 ((rd_T59 l0 x37_2).f1)) := (blk_cell BK164.out 1).trans rfl
                                  have hcz39_2 : wc.cell? ⟨gb164, 2, none⟩ = some (.string ((rd_T59 l0 x37_2).f2)) := (blk_cell BK164.out 2).trans rfl
                                  have hfz39_0 := blk_frozen BK164.out 0
                                  have hfz39_1 := blk_frozen BK164.out 1
                                  have hfz39_2 := blk_frozen BK164.out 2
                                  go_wp2_with (first | ((with_reducible refine gate_dst (N := 60) rfl ?_); (try (refine gate_guard (by rfl) ?_; dsimp only)); refine mget_event (ek := (Value.int .i64)) (ev := (Value.int .i64)) ?hg (N := 60) ?hd 66 3 3 (b := gb160) (m := x161000_1) t165 ?ho Tryd.underlying66 (mapKey_int Tryd.underlying3) 0 ?hz ?hb ?_; (case ho => exact ⟨_, _, rfl, rfl, rfl⟩); (case hd => rfl); (case hg => rfl); (case hz => exact fun _ => rfl); (case hb => exact (by (with_reducible repeat (first | refine blk_drewN ?_ _ | refine blk_drew ?_ | refine blk_alloc ?_ _)); exact BK160.out))) | ((with_reducible refine gate_dst (N := 75) rfl ?_); (try (refine gate_guard (by rfl) ?_; dsimp only)); refine mget_event (ek := (Value.int .i64)) (ev := (Value.int .i64)) ?hg (N := 75) ?hd 66 3 3 (b := gb160) (m := x161000_1) t165 ?ho Tryd.underlying66 (mapKey_int Tryd.underlying3) 0 ?hz ?hb ?_; (case ho => exact ⟨_, _, rfl, rfl, rfl⟩); (case hd => rfl); (case hg => rfl); (case hz => exact fun _ => rfl); (case hb => exact (by (with_reducible repeat (first | refine blk_drewN ?_ _ | refine blk_drew ?_ | refine blk_alloc ?_ _)); exact BK160.out))) | ((with_reducible refine gate_dst (N := 79) rfl ?_); (try (refine gate_guard (by rfl) ?_; dsimp only)); refine mget_event (ek := (Value.int .i64)) (ev := (Value.int .i64)) ?hg (N := 79) ?hd 66 3 3 (b := gb160) (m := x161000_1) ((rd_T59 l0 x37_2).f1) ?ho Tryd.underlying66 (mapKey_int Tryd.underlying3) 0 ?hz ?hb ?_; (case ho => exact ⟨_, _, rfl, rfl, rfl⟩); (case hd => rfl); (case hg => rfl); (case hz => exact fun _ => rfl); (case hb => exact (by (with_reducible repeat (first | refine blk_drewN ?_ _ | refine blk_drew ?_ | refine blk_alloc ?_ _)); exact BK160.out))))
                                  go_roundg kj20
                                  case measure => have := HK1.out; have := HK2.out; have := HJ20.out; omega
                                  case rel => exact ⟨(decide ((mgetD x161000_1 t165 0) < (mgetD x161000_1 ((rd_T59 l0 x37_2).f1) 0))), (!(decide ((mgetD x161000_1 t165 0) > x37_2))), (!(decide ((mgetD x161000_1 t165 0) > x37_2))), (wrap64 (x37_2 + 1)), (by first | rfl | (simp; done) | (simp [*]; done)), (by first | rfl | (simp; done) | (simp [*]; done)), (by first | rfl | (simp; done) | (simp [*]; done)), (by first | rfl | (simp; done) | (simp [*]; done)), H', ⟨by have := HK1.out; have := HK2.out; have := HJ20.out; omega⟩, ⟨by (with_reducible repeat (first | refine blk_drewN ?_ _ | refine blk_drew ?_ | refine blk_alloc ?_ _)); exact BK160.out⟩, ⟨by repeat (first | (with_reducible first | exact HB.out | apply below_alloc | apply pw_below_drewN | apply below_drew1 | refine below_set ?_ GE160.out | refine below_set ?_ GE164.out) | exact HB.out)⟩⟩
                                · replace c37 := Bool.eq_false_iff.mpr c37
                                  subst c37
                                  have H1 : (impl_RecoverableOf.l1 kj20 l0 (decide ((mgetD x161000_1 t165 0) < (mgetD x161000_1 ((rd_T59 l0 x37_2).f1) 0))) false (!(decide ((mgetD x161000_1 t165 0) > x37_2))) l0 (l0.length : Int) (wrap64 (x37_2 + 1)) x161000_1) = some (r1, r2, r3, r4) := by rw [if_neg (show ¬ (false = true) by decide)] at H; exact H
                                  clear H
                                  have H := H1
                                  clear H1
                                  have H' := Aside0.mk H
                                  clear H
                                  have hnb40 := NB164_160.out
                                  have hnc40 := NB160_164.out
                                  have hcz41_0 : wc.cell? ⟨gb164, 0, none⟩ = some (.int .i64 ((rd_T59 l0 x37_2).f0)) := (blk_cell BK164.out 0).trans rfl
                                  have hcz41_1 : wc.cell? ⟨gb164, 1, none⟩ = some (.int .i64 ((rd_T59 l0 x37_2).f1)) := (blk_cell BK164.out 1).trans rfl
                                  have hcz41_2 : wc.cell? ⟨gb164, 2, none⟩ = some (.string ((rd_T59 l0 x37_2).f2)) := (blk_cell BK164.out 2).trans rfl
                                  have hfz41_0 := blk_frozen BK164.out 0
                                  have hfz41_1 := blk_frozen BK164.out 1
                                  have hfz41_2 := blk_frozen BK164.out 2
                                  go_wp2_with (first | ((with_reducible refine gate_dst (N := 60) rfl ?_); (try (refine gate_guard (by rfl) ?_; dsimp only)); refine mget_event (ek := (Value.int .i64)) (ev := (Value.int .i64)) ?hg (N := 60) ?hd 66 3 3 (b := gb160) (m := x161000_1) t165 ?ho Tryd.underlying66 (mapKey_int Tryd.underlying3) 0 ?hz ?hb ?_; (case ho => exact ⟨_, _, rfl, rfl, rfl⟩); (case hd => rfl); (case hg => rfl); (case hz => exact fun _ => rfl); (case hb => exact (by (with_reducible repeat (first | refine blk_drewN ?_ _ | refine blk_drew ?_ | refine blk_alloc ?_ _)); exact BK160.out))) | ((with_reducible refine gate_dst (N := 75) rfl ?_); (try (refine gate_guard (by rfl) ?_; dsimp only)); refine mget_event (ek := (Value.int .i64)) (ev := (Value.int .i64)) ?hg (N := 75) ?hd 66 3 3 (b := gb160) (m := x161000_1) t165 ?ho Tryd.underlying66 (mapKey_int Tryd.underlying3) 0 ?hz ?hb ?_; (case ho => exact ⟨_, _, rfl, rfl, rfl⟩); (case hd => rfl); (case hg => rfl); (case hz => exact fun _ => rfl); (case hb => exact (by (with_reducible repeat (first | refine blk_drewN ?_ _ | refine blk_drew ?_ | refine blk_alloc ?_ _)); exact BK160.out))) | ((with_reducible refine gate_dst (N := 79) rfl ?_); (try (refine gate_guard (by rfl) ?_; dsimp only)); refine mget_event (ek := (Value.int .i64)) (ev := (Value.int .i64)) ?hg (N := 79) ?hd 66 3 3 (b := gb160) (m := x161000_1) ((rd_T59 l0 x37_2).f1) ?ho Tryd.underlying66 (mapKey_int Tryd.underlying3) 0 ?hz ?hb ?_; (case ho => exact ⟨_, _, rfl, rfl, rfl⟩); (case hd => rfl); (case hg => rfl); (case hz => exact fun _ => rfl); (case hb => exact (by (with_reducible repeat (first | refine blk_drewN ?_ _ | refine blk_drew ?_ | refine blk_alloc ?_ _)); exact BK160.out))))
                                  go_roundg kj20
                                  case measure => have := HK1.out; have := HK2.out; have := HJ20.out; omega
                                  case rel => exact ⟨(decide ((mgetD x161000_1 t165 0) < (mgetD x161000_1 ((rd_T59 l0 x37_2).f1) 0))), (false), (!(decide ((mgetD x161000_1 t165 0) > x37_2))), (wrap64 (x37_2 + 1)), (by first | rfl | (simp; done) | (simp [*]; done)), (by first | rfl | (simp; done) | (simp [*]; done)), (by first | rfl | (simp; done) | (simp [*]; done)), (by first | rfl | (simp; done) | (simp [*]; done)), H', ⟨by have := HK1.out; have := HK2.out; have := HJ20.out; omega⟩, ⟨by (with_reducible repeat (first | refine blk_drewN ?_ _ | refine blk_drew ?_ | refine blk_alloc ?_ _)); exact BK160.out⟩, ⟨by repeat (first | (with_reducible first | exact HB.out | apply below_alloc | apply pw_below_drewN | apply below_drew1 | refine below_set ?_ GE160.out | refine below_set ?_ GE164.out) | exact HB.out)⟩⟩
                              · replace c36 := Bool.eq_false_iff.mpr c36
                                subst c36
                                have H1 : (if x10_2 = true then (impl_RecoverableOf.l1 kj20 l0 false (!(decide ((mgetD x161000_1 t165 0) > x37_2))) (!(decide ((mgetD x161000_1 t165 0) > x37_2))) l0 (l0.length : Int) (wrap64 (x37_2 + 1)) x161000_1) else (impl_RecoverableOf.l1 kj20 l0 false false (!(decide ((mgetD x161000_1 t165 0) > x37_2))) l0 (l0.length : Int) (wrap64 (x37_2 + 1)) x161000_1)) = some (r1, r2, r3, r4) := by rw [if_neg (show ¬ (false = true) by decide)] at H; exact H
                                clear H
                                have H := H1
                                clear H1
                                by_cases c42 : x10_2 = true
                                · subst c42
                                  have H1 : (impl_RecoverableOf.l1 kj20 l0 false (!(decide ((mgetD x161000_1 t165 0) > x37_2))) (!(decide ((mgetD x161000_1 t165 0) > x37_2))) l0 (l0.length : Int) (wrap64 (x37_2 + 1)) x161000_1) = some (r1, r2, r3, r4) := by rw [if_pos rfl] at H; exact H
                                  clear H
                                  have H := H1
                                  clear H1
                                  have H' := Aside0.mk H
                                  clear H
                                  have hnb43 := NB164_160.out
                                  have hnc43 := NB160_164.out
                                  have hcz44_0 : wc.cell? ⟨gb164, 0, none⟩ = some (.int .i64 ((rd_T59 l0 x37_2).f0)) := (blk_cell BK164.out 0).trans rfl
                                  have hcz44_1 : wc.cell? ⟨gb164, 1, none⟩ = some (.int .i64 ((rd_T59 l0 x37_2).f1)) := (blk_cell BK164.out 1).trans rfl
                                  have hcz44_2 : wc.cell? ⟨gb164, 2, none⟩ = some (.string ((rd_T59 l0 x37_2).f2)) := (blk_cell BK164.out 2).trans rfl
                                  have hfz44_0 := blk_frozen BK164.out 0
                                  have hfz44_1 := blk_frozen BK164.out 1
                                  have hfz44_2 := blk_frozen BK164.out 2
                                  go_wp2_with (first | ((with_reducible refine gate_dst (N := 60) rfl ?_); (try (refine gate_guard (by rfl) ?_; dsimp only)); refine mget_event (ek := (Value.int .i64)) (ev := (Value.int .i64)) ?hg (N := 60) ?hd 66 3 3 (b := gb160) (m := x161000_1) t165 ?ho Tryd.underlying66 (mapKey_int Tryd.underlying3) 0 ?hz ?hb ?_; (case ho => exact ⟨_, _, rfl, rfl, rfl⟩); (case hd => rfl); (case hg => rfl); (case hz => exact fun _ => rfl); (case hb => exact (by (with_reducible repeat (first | refine blk_drewN ?_ _ | refine blk_drew ?_ | refine blk_alloc ?_ _)); exact BK160.out))))
                                  go_roundg kj20
                                  case measure => have := HK1.out; have := HK2.out; have := HJ20.out; omega
                                  case rel => exact ⟨(false), (!(decide ((mgetD x161000_1 t165 0) > x37_2))), (!(decide ((mgetD x161000_1 t165 0) > x37_2))), (wrap64 (x37_2 + 1)), (by first | rfl | (simp; done) | (simp [*]; done)), (by first | rfl | (simp; done) | (simp [*]; done)), (by first | rfl | (simp; done) | (simp [*]; done)), (by first | rfl | (simp; done) | (simp [*]; done)), H', ⟨by have := HK1.out; have := HK2.out; have := HJ20.out; omega⟩, ⟨by (with_reducible repeat (first | refine blk_drewN ?_ _ | refine blk_drew ?_ | refine blk_alloc ?_ _)); exact BK160.out⟩, ⟨by repeat (first | (with_reducible first | exact HB.out | apply below_alloc | apply pw_below_drewN | apply below_drew1 | refine below_set ?_ GE160.out | refine below_set ?_ GE164.out) | exact HB.out)⟩⟩
                                · replace c42 := Bool.eq_false_iff.mpr c42
                                  subst c42
                                  have H1 : (impl_RecoverableOf.l1 kj20 l0 false false (!(decide ((mgetD x161000_1 t165 0) > x37_2))) l0 (l0.length : Int) (wrap64 (x37_2 + 1)) x161000_1) = some (r1, r2, r3, r4) := by rw [if_neg (show ¬ (false = true) by decide)] at H; exact H
                                  clear H
                                  have H := H1
                                  clear H1
                                  have H' := Aside0.mk H
                                  clear H
                                  have hnb45 := NB164_160.out
                                  have hnc45 := NB160_164.out
                                  have hcz46_0 : wc.cell? ⟨gb164, 0, none⟩ = some (.int .i64 ((rd_T59 l0 x37_2).f0)) := (blk_cell BK164.out 0).trans rfl
                                  have hcz46_1 : wc.cell? ⟨gb164, 1, none⟩ = some (.int .i64 ((rd_T59 l0 x37_2).f1)) := (blk_cell BK164.out 1).trans rfl
                                  have hcz46_2 : wc.cell? ⟨gb164, 2, none⟩ = some (.string ((rd_T59 l0 x37_2).f2)) := (blk_cell BK164.out 2).trans rfl
                                  have hfz46_0 := blk_frozen BK164.out 0
                                  have hfz46_1 := blk_frozen BK164.out 1
                                  have hfz46_2 := blk_frozen BK164.out 2
                                  go_wp2_with (first | ((with_reducible refine gate_dst (N := 60) rfl ?_); (try (refine gate_guard (by rfl) ?_; dsimp only)); refine mget_event (ek := (Value.int .i64)) (ev := (Value.int .i64)) ?hg (N := 60) ?hd 66 3 3 (b := gb160) (m := x161000_1) t165 ?ho Tryd.underlying66 (mapKey_int Tryd.underlying3) 0 ?hz ?hb ?_; (case ho => exact ⟨_, _, rfl, rfl, rfl⟩); (case hd => rfl); (case hg => rfl); (case hz => exact fun _ => rfl); (case hb => exact (by (with_reducible repeat (first | refine blk_drewN ?_ _ | refine blk_drew ?_ | refine blk_alloc ?_ _)); exact BK160.out))))
                                  go_roundg kj20
                                  case measure => have := HK1.out; have := HK2.out; have := HJ20.out; omega
                                  case rel => exact ⟨(false), (false), (!(decide ((mgetD x161000_1 t165 0) > x37_2))), (wrap64 (x37_2 + 1)), (by first | rfl | (simp; done) | (simp [*]; done)), (by first | rfl | (simp; done) | (simp [*]; done)), (by first | rfl | (simp; done) | (simp [*]; done)), (by first | rfl | (simp; done) | (simp [*]; done)), H', ⟨by have := HK1.out; have := HK2.out; have := HJ20.out; omega⟩, ⟨by (with_reducible repeat (first | refine blk_drewN ?_ _ | refine blk_drew ?_ | refine blk_alloc ?_ _)); exact BK160.out⟩, ⟨by repeat (first | (with_reducible first | exact HB.out | apply below_alloc | apply pw_below_drewN | apply below_drew1 | refine below_set ?_ GE160.out | refine below_set ?_ GE164.out) | exact HB.out)⟩⟩
                            · rw [if_neg c35] at H
                              have c35b0 : (((rd_T59 l0 x37_2).f0) == 1) = false := beq_eq_false_iff_ne.mpr c35
                              have c35b1 : (((rd_T59 l0 x37_2).f0) != 1) = true := bne_iff_ne.mpr c35
                              have H' := Aside0.mk H
                              clear H
                              have hnb47 := NB164_160.out
                              have hnc47 := NB160_164.out
                              have hcz48_0 : wc.cell? ⟨gb164, 0, none⟩ = some (.int .i64 ((rd_T59 l0 x37_2).f0)) := (blk_cell BK164.out 0).trans rfl
                              have hcz48_1 : wc.cell? ⟨gb164, 1, none⟩ = some (.int .i64 ((rd_T59 l0 x37_2).f1)) := (blk_cell BK164.out 1).trans rfl
                              have hcz48_2 : wc.cell? ⟨gb164, 2, none⟩ = some (.string ((rd_T59 l0 x37_2).f2)) := (blk_cell BK164.out 2).trans rfl
                              have hfz48_0 := blk_frozen BK164.out 0
                              have hfz48_1 := blk_frozen BK164.out 1
                              have hfz48_2 := blk_frozen BK164.out 2
                              go_wp2_with (first | ((with_reducible refine gate_dst (N := 60) rfl ?_); (try (refine gate_guard (by rfl) ?_; dsimp only)); refine mget_event (ek := (Value.int .i64)) (ev := (Value.int .i64)) ?hg (N := 60) ?hd 66 3 3 (b := gb160) (m := x161000_1) t165 ?ho Tryd.underlying66 (mapKey_int Tryd.underlying3) 0 ?hz ?hb ?_; (case ho => exact ⟨_, _, rfl, rfl, rfl⟩); (case hd => rfl); (case hg => rfl); (case hz => exact fun _ => rfl); (case hb => exact (by (with_reducible repeat (first | refine blk_drewN ?_ _ | refine blk_drew ?_ | refine blk_alloc ?_ _)); exact BK160.out))))
                              go_roundg kj20
                              case measure => have := HK1.out; have := HK2.out; have := HJ20.out; omega
                              case rel => exact ⟨(x9_2), (x10_2), (!(decide ((mgetD x161000_1 t165 0) > x37_2))), (wrap64 (x37_2 + 1)), (by first | rfl | (simp; done) | (simp [*]; done)), (by first | rfl | (simp; done) | (simp [*]; done)), (by first | rfl | (simp; done) | (simp [*]; done)), (by first | rfl | (simp; done) | (simp [*]; done)), H', ⟨by have := HK1.out; have := HK2.out; have := HJ20.out; omega⟩, ⟨by (with_reducible repeat (first | refine blk_drewN ?_ _ | refine blk_drew ?_ | refine blk_alloc ?_ _)); exact BK160.out⟩, ⟨by repeat (first | (with_reducible first | exact HB.out | apply below_alloc | apply pw_below_drewN | apply below_drew1 | refine below_set ?_ GE160.out | refine below_set ?_ GE164.out) | exact HB.out)⟩⟩
                          · replace c34 := Bool.eq_false_iff.mpr c34
                            subst c34
                            have H1 : (if ((rd_T59 l0 x37_2).f0) = 1 then (if x9_2 = true then (if x10_2 = true then (impl_RecoverableOf.l1 kj20 l0 (decide ((mgetD x161000_1 t165 0) < (mgetD x161000_1 ((rd_T59 l0 x37_2).f1) 0))) (!(decide ((mgetD x161000_1 t165 0) > x37_2))) false l0 (l0.length : Int) (wrap64 (x37_2 + 1)) x161000_1) else (impl_RecoverableOf.l1 kj20 l0 (decide ((mgetD x161000_1 t165 0) < (mgetD x161000_1 ((rd_T59 l0 x37_2).f1) 0))) false false l0 (l0.length : Int) (wrap64 (x37_2 + 1)) x161000_1)) else (if x10_2 = true then (impl_RecoverableOf.l1 kj20 l0 false (!(decide ((mgetD x161000_1 t165 0) > x37_2))) false l0 (l0.length : Int) (wrap64 (x37_2 + 1)) x161000_1) else (impl_RecoverableOf.l1 kj20 l0 false false false l0 (l0.length : Int) (wrap64 (x37_2 + 1)) x161000_1))) else (impl_RecoverableOf.l1 kj20 l0 x9_2 x10_2 false l0 (l0.length : Int) (wrap64 (x37_2 + 1)) x161000_1)) = some (r1, r2, r3, r4) := by rw [if_neg (show ¬ (false = true) by decide)] at H; exact H
                            clear H
                            have H := H1
                            clear H1
                            by_cases c49 : ((rd_T59 l0 x37_2).f0) = 1
                            · rw [if_pos c49] at H
                              have c49b0 : (((rd_T59 l0 x37_2).f0) == 1) = true := beq_iff_eq.mpr c49
                              have c49b1 : (((rd_T59 l0 x37_2).f0) != 1) = false := bne_eq_false_iff_eq.mpr c49
                              clear c49
                              by_cases c50 : x9_2 = true
                              · subst c50
                                have H1 : (if x10_2 = true then (impl_RecoverableOf.l1 kj20 l0 (decide ((mgetD x161000_1 t165 0) < (mgetD x161000_1 ((rd_T59 l0 x37_2).f1) 0))) (!(decide ((mgetD x161000_1 t165 0) > x37_2))) false l0 (l0.length : Int) (wrap64 (x37_2 + 1)) x161000_1) else (impl_RecoverableOf.l1 kj20 l0 (decide ((mgetD x161000_1 t165 0) < (mgetD x161000_1 ((rd_T59 l0 x37_2).f1) 0))) false false l0 (l0.length : Int) (wrap64 (x37_2 + 1)) x161000_1)) = some (r1, r2, r3, r4) := by rw [if_pos rfl] at H; exact H
                                clear H
                                have H := H1
                                clear H1
                                by_cases c51 : x10_2 = true
                                · subst c51
                                  have H1 : (impl_RecoverableOf.l1 kj20 l0 (decide ((mgetD x161000_1 t165 0) < (mgetD x161000_1 ((rd_T59 l0 x37_2).f1) 0))) (!(decide ((mgetD x161000_1 t165 0) > x37_2))) false l0 (l0.length : Int) (wrap64 (x37_2 + 1)) x161000_1) = some (r1, r2, r3, r4) := by rw [if_pos rfl] at H; exact H
                                  clear H
                                  have H := H1
                                  clear H1
                                  have H' := Aside0.mk H
                                  clear H
                                  have hnb52 := NB164_160.out
                                  have hnc52 := NB160_164.out
                                  have hcz53_0 : wc.cell? ⟨gb164, 0, none⟩ = some (.int .i64 ((rd_T59 l0 x37_2).f0)) := (blk_cell BK164.out 0).trans rfl
                                  have hcz53_1 : wc.cell? ⟨gb164, 1, none⟩ = some (.int .i64 ((rd_T59 l0 x37_2).f1)) := (blk_cell BK164.out 1).trans rfl
                                  have hcz53_2 : wc.cell? ⟨gb164, 2, none⟩ = some (.string ((rd_T59 l0 x37_2).f2)) := (blk_cell BK164.out 2).trans rfl
                                  have hfz53_0 := blk_frozen BK164.out 0
                                  have hfz53_1 := blk_frozen BK164.out 1
                                  have hfz53_2 := blk_frozen BK164.out 2
                                  go_wp2_with (first | ((with_reducible refine gate_dst (N := 60) rfl ?_); (try (refine gate_guard (by rfl) ?_; dsimp only)); refine mget_event (ek := (Value.int .i64)) (ev := (Value.int .i64)) ?hg (N := 60) ?hd 66 3 3 (b := gb160) (m := x161000_1) t165 ?ho Tryd.underlying66 (mapKey_int Tryd.underlying3) 0 ?hz ?hb ?_; (case ho => exact ⟨_, _, rfl, rfl, rfl⟩); (case hd => rfl); (case hg => rfl); (case hz => exact fun _ => rfl); (case hb => exact (by (with_reducible repeat (first | refine blk_drewN ?_ _ | refine blk_drew ?_ | refine blk_alloc ?_ _)); exact BK160.out))) | ((with_reducible refine gate_dst (N := 75) rfl ?_); (try (refine gate_guard (by rfl) ?_; dsimp only)); refine mget_event (ek := (Value.int .i64)) (ev := (Value.int .i64)) ?hg (N := 75) ?hd 66 3 3 (b := gb160) (m := x161000_1) t165 ?ho Tryd.underlying66 (mapKey_int Tryd.underlying3) 0 ?hz ?hb ?_; (case ho => exact ⟨_, _, rfl, rfl, rfl⟩); (case hd => rfl); (case hg => rfl); (case hz => exact fun _ => rfl); (case hb => exact (by (with_reducible repeat (first | refine blk_drewN ?_ _ | refine blk_drew ?_ | refine blk_alloc ?_ _)); exact BK160.out))) | ((with_reducible refine gate_dst (N := 79) rfl ?_); (try (refine gate_guard (by rfl) ?_; dsimp only)); refine mget_event (ek := (Value.int .i64)) (ev := (Value.int .i64)) ?hg (N := 79) ?hd 66 3 3 (b := gb160) (m := x161000_1) ((rd_T59 l0 x37_2).f1) ?ho Tryd.underlying66 (mapKey_int Tryd.underlying3) 0 ?hz ?hb ?_; (case ho => exact ⟨_, _, rfl, rfl, rfl⟩); (case hd => rfl); (case hg => rfl); (case hz => exact fun _ => rfl); (case hb => exact (by (with_reducible repeat (first | refine blk_drewN ?_ _ | refine blk_drew ?_ | refine blk_alloc ?_ _)); exact BK160.out))))
                                  go_roundg kj20
                                  case measure => have := HK1.out; have := HK2.out; have := HJ20.out; omega
                                  case rel => exact ⟨(decide ((mgetD x161000_1 t165 0) < (mgetD x161000_1 ((rd_T59 l0 x37_2).f1) 0))), (!(decide ((mgetD x161000_1 t165 0) > x37_2))), (false), (wrap64 (x37_2 + 1)), (by first | rfl | (simp; done) | (simp [*]; done)), (by first | rfl | (simp; done) | (simp [*]; done)), (by first | rfl | (simp; done) | (simp [*]; done)), (by first | rfl | (simp; done) | (simp [*]; done)), H', ⟨by have := HK1.out; have := HK2.out; have := HJ20.out; omega⟩, ⟨by (with_reducible repeat (first | refine blk_drewN ?_ _ | refine blk_drew ?_ | refine blk_alloc ?_ _)); exact BK160.out⟩, ⟨by repeat (first | (with_reducible first | exact HB.out | apply below_alloc | apply pw_below_drewN | apply below_drew1 | refine below_set ?_ GE160.out | refine below_set ?_ GE164.out) | exact HB.out)⟩⟩
                                · replace c51 := Bool.eq_false_iff.mpr c51
                                  subst c51
                                  have H1 : (impl_RecoverableOf.l1 kj20 l0 (decide ((mgetD x161000_1 t165 0) < (mgetD x161000_1 ((rd_T59 l0 x37_2).f1) 0))) false false l0 (l0.length : Int) (wrap64 (x37_2 + 1)) x161000_1) = some (r1, r2, r3, r4) := by rw [if_neg (show ¬ (false = true) by decide)] at H; exact H
                                  clear H
                                  have H := H1
                                  clear H1
                                  have H' := Aside0.mk H
                                  clear H
                                  have hnb54 := NB164_160.out
                                  have hnc54 := NB160_164.out
                                  have hcz55_0 : wc.cell? ⟨gb164, 0, none⟩ = some (.int .i64 ((rd_T59 l0 x37_2).f0)) := (blk_cell BK164.out 0).trans rfl
                                  have hcz55_1 : wc.cell? ⟨gb164, 1, none⟩ = some (.int .i64 ((rd_T59 l0 x37_2).f1)) := (blk_cell BK164.out 1).trans rfl
                                  have hcz55_2 : wc.cell? ⟨gb164, 2, none⟩ = some (.string ((rd_T59 l0 x37_2).f2)) := (blk_cell BK164.out 2).trans rfl
                                  have hfz55_0 := blk_frozen BK164.out 0
                                  have hfz55_1 := blk_frozen BK164.out 1
                                  have hfz55_2 := blk_frozen BK164.out 2
                                  go_wp2_with (first | ((with_reducible refine gate_dst (N := 60) rfl ?_); (try (refine gate_guard (by rfl) ?_; dsimp only)); refine mget_event (ek := (Value.int .i64)) (ev := (Value.int .i64)) ?hg (N := 60) ?hd 66 3 3 (b := gb160) (m := x161000_1) t165 ?ho Tryd.underlying66 (mapKey_int Tryd.underlying3) 0 ?hz ?hb ?_; (case ho => exact ⟨_, _, rfl, rfl, rfl⟩); (case hd => rfl); (case hg => rfl); (case hz => exact fun _ => rfl); (case hb => exact (by (with_reducible repeat (first | refine blk_drewN ?_ _ | refine blk_drew ?_ | refine blk_alloc ?_ _)); exact BK160.out))) | ((with_reducible refine gate_dst (N := 75) rfl ?_); (try (refine gate_guard (by rfl) ?_; dsimp only)); refine mget_event (ek := (Value.int .i64)) (ev := (Value.int .i64)) ?hg (N := 75) ?hd 66 3 3 (b := gb160) (m := x161000_1) t165 ?ho Tryd.underlying66 (mapKey_int Tryd.underlying3) 0 ?hz ?hb ?_; (case ho => exact ⟨_, _, rfl, rfl, rfl⟩); (case hd => rfl); (case hg => rfl); (case hz => exact fun _ => rfl); (case hb => exact (by (with_reducible repeat (first | refine blk_drewN ?_ _ | refine blk_drew ?_ | refine blk_alloc ?_ _)); exact BK160.out))) | ((with_reducible refine gate_dst (N := 79) rfl ?_); (try (refine gate_guard (by rfl) ?_; dsimp only)); refine mget_event (ek := (Value.int .i64)) (ev := (Value.int .i64)) ?hg (N := 79) ?hd 66 3 3 (b := gb160) (m := x161000_1) ((rd_T59 l0 x37_2).f1) ?ho Tryd.underlying66 (mapKey_int Tryd.underlying3) 0 ?hz ?hb ?_; (case ho => exact ⟨_, _, rfl, rfl, rfl⟩); (case hd => rfl); (case hg => rfl); (case hz => exact fun _ => rfl); (case hb => exact (by (with_reducible repeat (first | refine blk_drewN ?_ _ | refine blk_drew ?_ | refine blk_alloc ?_ _)); exact BK160.out))))
                                  go_roundg kj20
                                  case measure => have := HK1.out; have := HK2.out; have := HJ20.out; omega
                                  case rel => exact ⟨(decide ((mgetD x161000_1 t165 0) < (mgetD x161000_1 ((rd_T59 l0 x37_2).f1) 0))), (false), (false), (wrap64 (x37_2 + 1)), (by first | rfl | (simp; done) | (simp [*]; done)), (by first | rfl | (simp; done) | (simp [*]; done)), (by first | rfl | (simp; done) | (simp [*]; done)), (by first | rfl | (simp; done) | (simp [*]; done)), H', ⟨by have := HK1.out; have := HK2.out; have := HJ20.out; omega⟩, ⟨by (with_reducible repeat (first | refine blk_drewN ?_ _ | refine blk_drew ?_ | refine blk_alloc ?_ _)); exact BK160.out⟩, ⟨by repeat (first | (with_reducible first | exact HB.out | apply below_alloc | apply pw_below_drewN | apply below_drew1 | refine below_set ?_ GE160.out | refine below_set ?_ GE164.out) | exact HB.out)⟩⟩
                              · replace c50 := Bool.eq_false_iff.mpr c50
                                subst c50
                                have H1 : (if x10_2 = true then (impl_RecoverableOf.l1 kj20 l0 false (!(decide ((mgetD x161000_1 t165 0) > x37_2))) false l0 (l0.length : Int) (wrap64 (x37_2 + 1)) x161000_1) else (impl_RecoverableOf.l1 kj20 l0 false false false l0 (l0.length : Int) (wrap64 (x37_2 + 1)) x161000_1)) = some (r1, r2, r3, r4) := by rw [if_neg (show ¬ (false = true) by decide)] at H; exact H
                                clear H
                                have H := H1
                                clear H1
                                by_cases c56 : x10_2 = true
                                · subst c56
                                  have H1 : (impl_RecoverableOf.l1 kj20 l0 false (!(decide ((mgetD x161000_1 t165 0) > x37_2))) false l0 (l0.length : Int) (wrap64 (x37_2 + 1)) x161000_1) = some (r1, r2, r3, r4) := by rw [if_pos rfl] at H; exact H
                                  clear H
                                  have H := H1
                                  clear H1
                                  have H' := Aside0.mk H
                                  clear H
                                  have hnb57 := NB164_160.out
                                  have hnc57 := NB160_164.out
                                  have hcz58_0 : wc.cell? ⟨gb164, 0, none⟩ = some (.int .i64 ((rd_T59 l0 x37_2).f0)) := (blk_cell BK164.out 0).trans rfl
                                  have hcz58_1 : wc.cell? ⟨gb164, 1, none⟩ = some (.int .i64 ((rd_T59 l0 x37_2).f1)) := (blk_cell BK164.out 1).trans rfl
                                  have hcz58_2 : wc.cell? ⟨gb164, 2, none⟩ = some (.string ((rd_T59 l0 x37_2).f2)) := (blk_cell BK164.out 2).trans rfl
                                  have hfz58_0 := blk_frozen BK164.out 0
                                  have hfz58_1 := blk_frozen BK164.out 1
                                  have hfz58_2 := blk_frozen BK164.out 2
                                  go_wp2_with (first | ((with_reducible refine gate_dst (N := 60) rfl ?_); (try (refine gate_guard (by rfl) ?_; dsimp only)); refine mget_event (ek := (Value.int .i64)) (ev := (Value.int .i64)) ?hg (N := 60) ?hd 66 3 3 (b := gb160) (m := x161000_1) t165 ?ho Tryd.underlying66 (mapKey_int Tryd.underlying3) 0 ?hz ?hb ?_; (case ho => exact ⟨_, _, rfl, rfl, rfl⟩); (case hd => rfl); (case hg => rfl); (case hz => exact fun _ => rfl); (case hb => exact (by (with_reducible repeat (first | refine blk_drewN ?_ _ | refine blk_drew ?_ | refine blk_alloc ?_ _)); exact BK160.out))))
                                  go_roundg kj20
                                  case measure => have := HK1.out; have := HK2.out; have := HJ20.out; omega
                                  case rel => exact ⟨(false), (!(decide ((mgetD x161000_1 t165 0) > x37_2))), (false), (wrap64 (x37_2 + 1)), (by first | rfl | (simp; done) | (simp [*]; done)), (by first | rfl | (simp; done) | (simp [*]; done)), (by first | rfl | (simp; done) | (simp [*]; done)), (by first | rfl | (simp; done) | (simp [*]; done)), H', ⟨by have := HK1.out; have := HK2.out; have := HJ20.out; omega⟩, ⟨by (with_reducible repeat (first | refine blk_drewN ?_ _ | refine blk_drew ?_ | refine blk_alloc ?_ _)); exact BK160.out⟩, ⟨by repeat (first | (with_reducible first | exact HB.out | apply below_alloc | apply pw_below_drewN | apply below_drew1 | refine below_set ?_ GE160.out | refine below_set ?_ GE164.out) | exact HB.out)⟩⟩
                                · replace c56 := Bool.eq_false_iff.mpr c56
                                  subst c56
                                  have H1 : (impl_RecoverableOf.l1 kj20 l0 false false false l0 (l0.length : Int) (wrap64 (x37_2 + 1)) x161000_1) = some (r1, r2, r3, r4) := by rw [if_neg (show ¬ (false = true) by decide)] at H; exact H
                                  clear H
                                  have H := H1
                                  clear H1
                                  have H' := Aside0.mk H
                                  clear H
                                  have hnb59 := NB164_160.out
                                  have hnc59 := NB160_164.out
                                  have hcz60_0 : wc.cell? ⟨gb164, 0, none⟩ = some (.int .i64 ((rd_T59 l0 x37_2).f0)) := (blk_cell BK164.out 0).trans rfl
                                  have hcz60_1 : wc.cell? ⟨gb164, 1, none⟩ = some (.int .i64 ((rd_T59 l0 x37_2).f1)) := (blk_cell BK164.out 1).trans rfl
                                  have hcz60_2 : wc.cell? ⟨gb164, 2, none⟩ = some (.string ((rd_T59 l0 x37_2).f2)) := (blk_cell BK164.out 2).trans rfl
                                  have hfz60_0 := blk_frozen BK164.out 0
                                  have hfz60_1 := blk_frozen BK164.out 1
                                  have hfz60_2 := blk_frozen BK164.out 2
                                  go_wp2_with (first | ((with_reducible refine gate_dst (N := 60) rfl ?_); (try (refine gate_guard (by rfl) ?_; dsimp only)); refine mget_event (ek := (Value.int .i64)) (ev := (Value.int .i64)) ?hg (N := 60) ?hd 66 3 3 (b := gb160) (m := x161000_1) t165 ?ho Tryd.underlying66 (mapKey_int Tryd.underlying3) 0 ?hz ?hb ?_; (case ho => exact ⟨_, _, rfl, rfl, rfl⟩); (case hd => rfl); (case hg => rfl); (case hz => exact fun _ => rfl); (case hb => exact (by (with_reducible repeat (first | refine blk_drewN ?_ _ | refine blk_drew ?_ | refine blk_alloc ?_ _)); exact BK160.out))))
                                  go_roundg kj20
                                  case measure => have := HK1.out; have := HK2.out; have := HJ20.out; omega
                                  case rel => exact ⟨(false), (false), (false), (wrap64 (x37_2 + 1)), (by first | rfl | (simp; done) | (simp [*]; done)), (by first | rfl | (simp; done) | (simp [*]; done)), (by first | rfl | (simp; done) | (simp [*]; done)), (by first | rfl | (simp; done) | (simp [*]; done)), H', ⟨by have := HK1.out; have := HK2.out; have := HJ20.out; omega⟩, ⟨by (with_reducible repeat (first | refine blk_drewN ?_ _ | refine blk_drew ?_ | refine blk_alloc ?_ _)); exact BK160.out⟩, ⟨by repeat (first | (with_reducible first | exact HB.out | apply below_alloc | apply pw_below_drewN | apply below_drew1 | refine below_set ?_ GE160.out | refine below_set ?_ GE164.out) | exact HB.out)⟩⟩
                            · rw [if_neg c49] at H
                              have c49b0 : (((rd_T59 l0 x37_2).f0) == 1) = false := beq_eq_false_iff_ne.mpr c49
                              have c49b1 : (((rd_T59 l0 x37_2).f0) != 1) = true := bne_iff_ne.mpr c49
                              have H' := Aside0.mk H
                              clear H
                              have hnb61 := NB164_160.out
                              have hnc61 := NB160_164.out
                              have hcz62_0 : wc.cell? ⟨gb164, 0, none⟩ = some (.int .i64 ((rd_T59 l0 x37_2).f0)) := (blk_cell BK164.out 0).trans rfl
                              have hcz62_1 : wc.cell? ⟨gb164, 1, none⟩ = some (.int .i64 ((rd_T59 l0 x37_2).f1)) := (blk_cell BK164.out 1).trans rfl
                              have hcz62_2 : wc.cell? ⟨gb164, 2, none⟩ = some (.string ((rd_T59 l0 x37_2).f2)) := (blk_cell BK164.out 2).trans rfl
                              have hfz62_0 := blk_frozen BK164.out 0
                              have hfz62_1 := blk_frozen BK164.out 1
                              have hfz62_2 := blk_frozen BK164.out 2
                              go_wp2_with (first | ((with_reducible refine gate_dst (N := 60) rfl ?_); (try (refine gate_guard (by rfl) ?_; dsimp only)); refine mget_event (ek := (Value.int .i64)) (ev := (Value.int .i64)) ?hg (N := 60) ?hd 66 3 3 (b := gb160) (m := x161000_1) t165 ?ho Tryd.underlying66 (mapKey_int Tryd.underlying3) 0 ?hz ?hb ?_; (case ho => exact ⟨_, _, rfl, rfl, rfl⟩); (case hd => rfl); (case hg => rfl); (case hz => exact fun _ => rfl); (case hb => exact (by (with_reducible repeat (first | refine blk_drewN ?_ _ | refine blk_drew ?_ | refine blk_alloc ?_ _)); exact BK160.out))))
                              go_roundg kj20
                              case measure => have := HK1.out; have := HK2.out; have := HJ20.out; omega
                              case rel => exact ⟨(x9_2), (x10_2), (false), (wrap64 (x37_2 + 1)), (by first | rfl | (simp; done) | (simp [*]; done)), (by first | rfl | (simp; done) | (simp [*]; done)), (by first | rfl | (simp; done) | (simp [*]; done)), (by first | rfl | (simp; done) | (simp [*]; done)), H', ⟨by have := HK1.out; have := HK2.out; have := HJ20.out; omega⟩, ⟨by (with_reducible repeat (first | refine blk_drewN ?_ _ | refine blk_drew ?_ | refine blk_alloc ?_ _)); exact BK160.out⟩, ⟨by repeat (first | (with_reducible first | exact HB.out | apply below_alloc | apply pw_below_drewN | apply below_drew1 | refine below_set ?_ GE160.out | refine below_set ?_ GE164.out) | exact HB.out)⟩⟩
                  · rw [if_neg c19] at H
                    exact absurd H (by simp)
                · rw [if_neg c18] at H
                  exact absurd H (by simp)
              · rw [if_neg c17] at H
                have c17b0 : decide (x37_2 < (l0.length : Int)) = false := decide_eq_false c17
                clear c17
                simp only [Option.some.injEq, Prod.mk.injEq] at H
                obtain ⟨rfl, rfl, rfl, rfl⟩ := H
                go_wp2
                refine bodyPost_ret (results_list (rs := [.tmp 2, .tmp 3, .tmp 4, .tmp 5]) rfl (by simp) (.tmp (.tmp (.tmp (.tmp .nil))))) rfl ?_
                exact ⟨by first | rfl | (simp [errW_none, errW_some] <;> rfl) | (simp [*, errW_none, errW_some] <;> rfl), by repeat (first | (with_reducible first | exact HB.out | apply below_alloc | apply pw_below_drewN | apply below_drew1 | refine below_set ?_ GE160.out) | exact HB.out)⟩
  · replace c3 := Bool.eq_false_iff.mpr c3
    subst c3
    have H1 : (some (false, false, false, false)) = some (r1, r2, r3, r4) := by rw [if_neg (show ¬ (false = true) by decide)] at H; exact H
    clear H
    have H := H1
    clear H1
    simp only [Option.some.injEq, Prod.mk.injEq] at H
    obtain ⟨rfl, rfl, rfl, rfl⟩ := H
    go_enter Tryd.func17, Tryd.ntmps17
    go_wp2_with (first | ((with_reducible refine gate_callee (f := 49) rfl ?_); refine goesL_ (some 17) rfl rfl Tryd.func49 (by kernel_rfl) rfl #[.slice A0 l0.length c0] rfl (by (try simp only [List.map_toArray, List.map_cons, List.map_nil]); first | done | rfl | (simp only [List.length_drop, List.length_take]; rfl)) ?_; (with_reducible refine (impl_areOps.calls k _ _ l0 false _ ?side1 ?side2 A2.out).mono ?_); (case side1 => repeat (first | exact HR0.out | (with_reducible refine Kd.C_alloc ?_ _) | (with_reducible refine Kd.C_drewN ?_ _) | (with_reducible refine Kd.C_drew ?_))); (case side2 => exact HC0.out); rintro e w63 ⟨rfl, hb⟩; refine ⟨_, rfl, ?_⟩; have n0_ := Aside0.mk (below_step (by repeat (first | (with_reducible first | exact HB.out | apply below_alloc | apply pw_below_drewN | apply below_drew1) | exact HB.out)) hb); clear HB; have HB := n0_; clear n0_; (try clear hb); (try clear hb2); (try clear hk); (try clear hi)))
    refine bodyPost_ret (results_list (rs := [.tmp 2, .tmp 3, .tmp 4, .tmp 5]) rfl (by simp) (.tmp (.tmp (.tmp (.tmp .nil))))) rfl ?_
    exact ⟨by first | rfl | (simp [errW_none, errW_some] <;> rfl) | (simp [*, errW_none, errW_some] <;> rfl), by repeat (first | (with_reducible first | exact HB.out | apply below_alloc | apply pw_below_drewN | apply below_drew1) | exact HB.out)⟩

end Go.Proofs.YtobkiheihjdanaaDoor.PFnExactRecoverableOf
