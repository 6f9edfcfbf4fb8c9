-- Written by a program of this session (wip/mk.py) over the kit's print. Not trusted: Lean checks it.
import Derived.Test.YtobkiheihjdanaaDoorPFnExactReadsFromx0
import Derived.Test.YtobkiheihjdanaaDoorPFnExactReadsFromx1
import Derived.Test.YtobkiheihjdanaaDoorPFnExactReadsFromx2
namespace Go.Proofs.YtobkiheihjdanaaDoor.PFnExactReadsFrom
open Go.RowKit Go.Proofs.YtobkiheihjdanaaDoorW.PrintWords Go.Proofs.YtobkiheihjdanaaDoorW.PrintLast Go.Proofs.YtobkiheihjdanaaDoorW.PrintMore
attribute [local go_sem] max2_int min2_int max_two min_two max_three min_three max_four min_four   -- for this text's walks alone
open Go.Proofs.YtobkiheihjdanaaDoor.MapW
set_option linter.unusedVariables false
set_option linter.unusedSimpArgs false

/-! ### spec_GoodOps: function 12 -/
mutual
def spec_GoodOps.l0 : Nat → List (S59) → List (S59) → Int → Int → Option (Bool)
  | 0, _, _, _, _ => none
  | k + 1, x0, x12, x13, x14 => if x14 < x13 then (if 0 ≤ x14 then (if x14 < (x12.length : Int) then ((spec_l1In.f ((rd_T59 x12 x14).f0) 1 3).bind fun t123 => (if t123 = true then ((spec_l1In.f ((rd_T59 x12 x14).f1) 1 8).bind fun t124 => (if t124 = true then (if ((rd_T59 x12 x14).f2).toList = ([] : List UInt8) then (if ((rd_T59 x12 x14).f0) = 3 then (spec_GoodOps.j1 k x0 x14 x12 x13 x14 false ((rd_T59 x12 x14).f0) ((rd_T59 x12 x14).f1) ((rd_T59 x12 x14).f2)) else (spec_GoodOps.j1 k x0 x14 x12 x13 x14 true ((rd_T59 x12 x14).f0) ((rd_T59 x12 x14).f1) ((rd_T59 x12 x14).f2))) else (if ((rd_T59 x12 x14).f0) = 3 then (spec_GoodOps.j1 k x0 x14 x12 x13 x14 true ((rd_T59 x12 x14).f0) ((rd_T59 x12 x14).f1) ((rd_T59 x12 x14).f2)) else ((spec_l1Key.f k ((rd_T59 x12 x14).f2)).bind fun t125 => (spec_GoodOps.j1 k x0 x14 x12 x13 x14 (!t125) ((rd_T59 x12 x14).f0) ((rd_T59 x12 x14).f1) ((rd_T59 x12 x14).f2))))) else (spec_GoodOps.j1 k x0 x14 x12 x13 x14 true ((rd_T59 x12 x14).f0) ((rd_T59 x12 x14).f1) ((rd_T59 x12 x14).f2)))) else (spec_GoodOps.j1 k x0 x14 x12 x13 x14 true ((rd_T59 x12 x14).f0) ((rd_T59 x12 x14).f1) ((rd_T59 x12 x14).f2)))) else (none)) else (none)) else (some true)
def spec_GoodOps.j1 : Nat → List (S59) → Int → List (S59) → Int → Int → Bool → Int → Int → ByteArray → Option (Bool)
  | 0, _, _, _, _, _, _, _, _, _ => none
  | k + 1, x0, x3, x12, x13, x14, x48, x123000, x123001, x123002 => if x48 = true then (some false) else (if 0 ≤ (wrap64 (x3 + 1)) then (if (wrap64 (x3 + 1)) ≤ (x0.length : Int) then ((some (x0.drop ((wrap64 (x3 + 1)) : Int).toNat : List (S59))).bind fun y126 => (spec_GoodOps.l1 k x0 false false x12 x13 x14 y126 (y126.length : Int) 0 x123000 x123001 x123002)) else (none)) else (none))
def spec_GoodOps.l1 : Nat → List (S59) → Bool → Bool → List (S59) → Int → Int → List (S59) → Int → Int → Int → Int → ByteArray → Option (Bool)
  | 0, _, _, _, _, _, _, _, _, _, _, _, _ => none
  | k + 1, x0, x5, x6, x12, x13, x14, x52, x53, x54, x123000, x123001, x123002 => if x54 < x53 then (if 0 ≤ x54 then (if x54 < (x52.length : Int) then (if x5 = true then (if x6 = true then (spec_GoodOps.l1 k x0 true true x12 x13 x14 x52 x53 (wrap64 (x54 + 1)) x123000 x123001 x123002) else (if ((rd_T59 x52 x54).f1) = x123001 then (spec_GoodOps.l1 k x0 true (((rd_T59 x52 x54).f0) == 3) x12 x13 x14 x52 x53 (wrap64 (x54 + 1)) x123000 x123001 x123002) else (spec_GoodOps.l1 k x0 true false x12 x13 x14 x52 x53 (wrap64 (x54 + 1)) x123000 x123001 x123002))) else (if x6 = true then (spec_GoodOps.l1 k x0 (((rd_T59 x52 x54).f1) == x123001) true x12 x13 x14 x52 x53 (wrap64 (x54 + 1)) x123000 x123001 x123002) else (if ((rd_T59 x52 x54).f1) = x123001 then (spec_GoodOps.l1 k x0 (((rd_T59 x52 x54).f1) == x123001) (((rd_T59 x52 x54).f0) == 3) x12 x13 x14 x52 x53 (wrap64 (x54 + 1)) x123000 x123001 x123002) else (spec_GoodOps.l1 k x0 (((rd_T59 x52 x54).f1) == x123001) false x12 x13 x14 x52 x53 (wrap64 (x54 + 1)) x123000 x123001 x123002)))) else (none)) else (none)) else (if x123000 = 3 then (if x5 = true then (some false) else (spec_GoodOps.l0 k x0 x12 x13 (wrap64 (x14 + 1)))) else (if x6 = true then (spec_GoodOps.l0 k x0 x12 x13 (wrap64 (x14 + 1))) else (some false)))
end
def spec_GoodOps.f (k : Nat) (l0 : List (S59)) : Option (Bool) := if (l0.length : Int) > 60 then (some false) else (spec_GoodOps.l0 k l0 l0 (l0.length : Int) 0)
theorem spec_GoodOps.mono_l : ∀ k, (∀ y0 y1 y2 y3, LeO (spec_GoodOps.l0 k y0 y1 y2 y3) (spec_GoodOps.l0 (k + 1) y0 y1 y2 y3)) ∧ (∀ y0 y1 y2 y3 y4 y5 y6 y7 y8, LeO (spec_GoodOps.j1 k y0 y1 y2 y3 y4 y5 y6 y7 y8) (spec_GoodOps.j1 (k + 1) y0 y1 y2 y3 y4 y5 y6 y7 y8)) ∧ (∀ y0 y1 y2 y3 y4 y5 y6 y7 y8 y9 y10 y11, LeO (spec_GoodOps.l1 k y0 y1 y2 y3 y4 y5 y6 y7 y8 y9 y10 y11) (spec_GoodOps.l1 (k + 1) y0 y1 y2 y3 y4 y5 y6 y7 y8 y9 y10 y11))
  | 0 => ⟨fun _ _ _ _ r h => by simp [spec_GoodOps.l0] at h, fun _ _ _ _ _ _ _ _ _ r h => by simp [spec_GoodOps.j1] at h, fun _ _ _ _ _ _ _ _ _ _ _ _ r h => by simp [spec_GoodOps.l1] at h⟩
  | k + 1 => by
    obtain ⟨ih0, ih1, ih2⟩ := spec_GoodOps.mono_l k
    refine ⟨?_, ?_, ?_⟩
    · intro y0 y1 y2 y3
      unfold spec_GoodOps.l0
      repeat' first
      | (with_reducible exact ih0 _ _ _ _)
      | (with_reducible exact ih1 _ _ _ _ _ _ _ _ _)
      | (with_reducible exact ih2 _ _ _ _ _ _ _ _ _ _ _ _)
      | (with_reducible exact spec_l1Key.mono _ _)
      | (with_reducible exact LeO.refl _)
      | (with_reducible exact LeO.none _)
      | (with_reducible refine LeO.ite ?_ ?_)
      | (with_reducible refine LeO.bind ?_ (fun _ => ?_))
      | exact ih0 _ _ _ _
      | exact ih1 _ _ _ _ _ _ _ _ _
      | exact ih2 _ _ _ _ _ _ _ _ _ _ _ _
      | exact spec_l1Key.mono _ _
      | exact LeO.none _
      | refine LeO.ite ?_ ?_
      | refine LeO.bind ?_ (fun _ => ?_)
    · intro y0 y1 y2 y3 y4 y5 y6 y7 y8
      unfold spec_GoodOps.j1
      repeat' first
      | (with_reducible exact ih0 _ _ _ _)
      | (with_reducible exact ih1 _ _ _ _ _ _ _ _ _)
      | (with_reducible exact ih2 _ _ _ _ _ _ _ _ _ _ _ _)
      | (with_reducible exact spec_l1Key.mono _ _)
      | (with_reducible exact LeO.refl _)
      | (with_reducible exact LeO.none _)
      | (with_reducible refine LeO.ite ?_ ?_)
      | (with_reducible refine LeO.bind ?_ (fun _ => ?_))
      | exact ih0 _ _ _ _
      | exact ih1 _ _ _ _ _ _ _ _ _
      | exact ih2 _ _ _ _ _ _ _ _ _ _ _ _
      | exact spec_l1Key.mono _ _
      | exact LeO.none _
      | refine LeO.ite ?_ ?_
      | refine LeO.bind ?_ (fun _ => ?_)
    · intro y0 y1 y2 y3 y4 y5 y6 y7 y8 y9 y10 y11
      unfold spec_GoodOps.l1
      repeat' first
      | (with_reducible exact ih0 _ _ _ _)
      | (with_reducible exact ih1 _ _ _ _ _ _ _ _ _)
      | (with_reducible exact ih2 _ _ _ _ _ _ _ _ _ _ _ _)
      | (with_reducible exact spec_l1Key.mono _ _)
      | (with_reducible exact LeO.refl _)
      | (with_reducible exact LeO.none _)
      | (with_reducible refine LeO.ite ?_ ?_)
      | (with_reducible refine LeO.bind ?_ (fun _ => ?_))
      | exact ih0 _ _ _ _
      | exact ih1 _ _ _ _ _ _ _ _ _
      | exact ih2 _ _ _ _ _ _ _ _ _ _ _ _
      | exact spec_l1Key.mono _ _
      | exact LeO.none _
      | refine LeO.ite ?_ ?_
      | refine LeO.bind ?_ (fun _ => ?_)
theorem spec_GoodOps.mono : ∀ a0 k, LeO (spec_GoodOps.f k a0) (spec_GoodOps.f (k + 1) a0) := by
  intro a0 k
  obtain ⟨ih0, ih1, ih2⟩ := spec_GoodOps.mono_l k
  unfold spec_GoodOps.f
  repeat' first
      | (with_reducible exact ih0 _ _ _ _)
      | (with_reducible exact ih1 _ _ _ _ _ _ _ _ _)
      | (with_reducible exact ih2 _ _ _ _ _ _ _ _ _ _ _ _)
      | (with_reducible exact spec_l1Key.mono _ _)
      | (with_reducible exact LeO.refl _)
      | (with_reducible exact LeO.none _)
      | (with_reducible refine LeO.ite ?_ ?_)
      | (with_reducible refine LeO.bind ?_ (fun _ => ?_))
      | exact ih0 _ _ _ _
      | exact ih1 _ _ _ _ _ _ _ _ _
      | exact ih2 _ _ _ _ _ _ _ _ _ _ _ _
      | exact spec_l1Key.mono _ _
      | exact LeO.none _
      | refine LeO.ite ?_ ?_
      | refine LeO.bind ?_ (fun _ => ?_)
set_option maxHeartbeats 8000000 in
set_option maxRecDepth 100000 in
theorem spec_GoodOps.calls (k : Nat) (A0 : Option Addr) (c0 : Nat) (l0 : List (S59)) (r : Bool) (w : World) (hr0 : Kd.C k59 w A0 l0.length l0) (hc0 : l0.length ≤ c0) (h : spec_GoodOps.f k l0 = some r) :
    Calls Tryd.prog 12 #[.slice A0 l0.length c0] w fun e w' => e = .returned (.bool r) ∧ Below w.heap.size w w' := by
  have hu59 := Tryd.underlying59
  have HR0 := Aside0.mk hr0
  have HC0 := Aside0.mk hc0
  clear hr0 hc0
  have HB := Aside0.mk (Below.refl w.heap.size w)
  have H : (if (l0.length : Int) > 60 then (some false) else (spec_GoodOps.l0 k l0 l0 (l0.length : Int) 0)) = some r := h
  clear h
  by_cases c2 : (l0.length : Int) > 60
  · rw [if_pos c2] at H
    have c2b0 : decide (60 < (l0.length : Int)) = true := decide_eq_true c2
    have c2b1 : decide (60 < l0.length) = true := decide_eq_true (by omega)
    clear c2
    obtain rfl := Option.some.inj H
    go_enter Tryd.func12, Tryd.ntmps12
    go_wp2
    go_ret
    exact ⟨by first | rfl | (simp [errW_none, errW_some] <;> rfl) | (simp [*, errW_none, errW_some] <;> rfl), by repeat (first | (with_reducible first | exact HB.out | apply below_alloc | apply pw_below_drewN | apply below_drew1) | exact HB.out)⟩
  · rw [if_neg c2] at H
    have c2b0 : decide (60 < (l0.length : Int)) = false := decide_eq_false c2
    have c2b1 : decide (60 < l0.length) = false := decide_eq_false (by omega)
    clear c2
    have H' := Aside0.mk H
    clear H
    go_enter Tryd.func12, Tryd.ntmps12
    go_wp2
    go_loopg [14] k (fun kq v14 w' => ∃ (x14_1 : Int), v14 = .int .i64 x14_1 ∧ Aside0 (spec_GoodOps.l0 kq l0 l0 (l0.length : Int) x14_1 = some r) ∧ Aside0 (kq ≤ k) ∧ Aside0 (Below w.heap.size w w'))
    case atStart => exact ⟨(0), (by first | rfl | (simp; done) | (simp [*]; done)), H', ⟨Nat.le_refl _⟩, ⟨by repeat (first | (with_reducible first | exact HB.out | apply below_alloc | apply pw_below_drewN | apply below_drew1) | exact HB.out)⟩⟩
    case round =>
      clear H'
      try clear c1
      try clear c2
      try clear c2b0
      try clear c2b1
      try clear p2
      obtain ⟨x14_1, rfl, HA, HK1, HB⟩ := hrel
      cases gk with
      | zero => exact absurd HA.out (by simp [spec_GoodOps.l0])
      | succ k1 =>
        have H := HA.out
        clear HA
        simp only [spec_GoodOps.l0] at H
        by_cases c3 : x14_1 < (l0.length : Int)
        · rw [if_pos c3] at H
          have c3b0 : decide (x14_1 < (l0.length : Int)) = true := decide_eq_true c3
          clear c3
          by_cases c4 : 0 ≤ x14_1
          · rw [if_pos c4] at H
            have c4b0 : decide (0 ≤ x14_1) = true := decide_eq_true c4
            clear c4
            by_cases c5 : x14_1 < (l0.length : Int)
            · rw [if_pos c5] at H
              have c5b0 : decide (x14_1 < (l0.length : Int)) = true := decide_eq_true c5
              clear c5
              have HC6 := Aside0.mk H
              clear H
              have p121 : 0 ≤ (x14_1 : Int) := of_decide_eq_true (by first | (with_reducible assumption) | assumption)
              have q121 : x14_1 < (l0.length : Int) := of_decide_eq_true (by first | (with_reducible assumption) | assumption)
              obtain ⟨ad121, e121, hx121_0, hx121_1, hx121_2⟩ := at_T59 HR0.out x14_1 p121 q121
              cases e121
              replace hx121_0 := (HB.out.cell (World.block_lt_of_cell? w _ hx121_0)).trans hx121_0
              replace hx121_1 := (HB.out.cell (World.block_lt_of_cell? w _ hx121_1)).trans hx121_1
              replace hx121_2 := (HB.out.cell (World.block_lt_of_cell? w _ hx121_2)).trans hx121_2
              replace p121 := eq_true p121
              replace q121 := eq_true q121
              go_upto_region 6 with (first | ((with_reducible refine gate_dst (N := 4) rfl ?_); refine box_event ?hg (N := 4) ?hd (cs := #[.int .i64 0, .int .i64 0, .string (⟨#[]⟩ : ByteArray)]) (t := 59) ?hr ?_; (case hd => rfl); (case hg => rfl); (case hr => first | (go_simp; done) | (go_simp; rfl)); intro gb122 hg w7 hbox hb; have n0_ := Aside0.mk (below_step (by repeat (first | (with_reducible first | exact HB.out | apply below_alloc | apply pw_below_drewN | apply below_drew1) | exact HB.out)) hb); have n1_ := Aside0.mk (hbox); have n2_ := Aside0.mk ((by rw [hg]; exact (below_size (by repeat (first | (with_reducible first | exact HB.out | apply below_alloc | apply pw_below_drewN | apply below_drew1) | exact HB.out))) : w.heap.size ≤ gb122)); have n3_ := Aside0.mk ((by rw [hg]; exact (below_size (by repeat (first | (with_reducible first | exact HB.out | apply below_alloc | apply pw_below_drewN | apply below_drew1) | exact HB.out))) : w.heap.size ≤ gb122)); clear HB; have HB := n0_; have BK122 := n1_; have GW122 := n2_; have GE122 := n3_; clear n0_ n1_ n2_ n3_; clear hb hbox hg; have hcz8_0 : w7.cell? ⟨gb122, 0, none⟩ = some (.int .i64 0) := (blk_cell BK122.out 0).trans rfl; have hcz8_1 : w7.cell? ⟨gb122, 1, none⟩ = some (.int .i64 0) := (blk_cell BK122.out 1).trans rfl; have hcz8_2 : w7.cell? ⟨gb122, 2, none⟩ = some (.string (⟨#[]⟩ : ByteArray)) := (blk_cell BK122.out 2).trans rfl; have hfz8_0 := blk_frozen BK122.out 0; have hfz8_1 := blk_frozen BK122.out 1; have hfz8_2 := blk_frozen BK122.out 2))
              (try simp only [Act.put, List.setIfInBounds_toArray, List.set_cons_zero, List.set_cons_succ])
              go_cut [48] (fun v48 wc => ∃ (kq : Nat) (x48_5 : Bool), v48 = .bool x48_5 ∧ Aside0 (spec_GoodOps.j1 kq l0 x14_1 l0 (l0.length : Int) x14_1 x48_5 ((rd_T59 l0 x14_1).f0) ((rd_T59 l0 x14_1).f1) ((rd_T59 l0 x14_1).f2) = some r) ∧ Aside0 (kq ≤ k1) ∧ Aside0 (wc.heap[gb122]? = some (.cells #[.int .i64 ((rd_T59 l0 x14_1).f0), .int .i64 ((rd_T59 l0 x14_1).f1), .string ((rd_T59 l0 x14_1).f2)] 59 (0, 0))) ∧ Aside0 (Below w.heap.size w wc))
              case first =>
                have H := HC6.out
                clear HC6
                replace H := Option.bind_eq_some_iff.mp H
                obtain ⟨t123, A90, H⟩ := H
                replace H : (if t123 = true then ((spec_l1In.f ((rd_T59 l0 x14_1).f1) 1 8).bind fun t124 => (if t124 = true then (if ((rd_T59 l0 x14_1).f2).toList = ([] : List UInt8) then (if ((rd_T59 l0 x14_1).f0) = 3 then (spec_GoodOps.j1 k1 l0 x14_1 l0 (l0.length : Int) x14_1 false ((rd_T59 l0 x14_1).f0) ((rd_T59 l0 x14_1).f1) ((rd_T59 l0 x14_1).f2)) else (spec_GoodOps.j1 k1 l0 x14_1 l0 (l0.length : Int) x14_1 true ((rd_T59 l0 x14_1).f0) ((rd_T59 l0 x14_1).f1) ((rd_T59 l0 x14_1).f2))) else (if ((rd_T59 l0 x14_1).f0) = 3 then (spec_GoodOps.j1 k1 l0 x14_1 l0 (l0.length : Int) x14_1 true ((rd_T59 l0 x14_1).f0) ((rd_T59 l0 x14_1).f1) ((rd_T59 l0 x14_1).f2)) else ((spec_l1Key.f k1 ((rd_T59 l0 x14_1).f2)).bind fun t125 => (spec_GoodOps.j1 k1 l0 x14_1 l0 (l0.length : Int) x14_1 (!t125) ((rd_T59 l0 x14_1).f0) ((rd_T59 l0 x14_1).f1) ((rd_T59 l0 x14_1).f2))))) else (spec_GoodOps.j1 k1 l0 x14_1 l0 (l0.length : Int) x14_1 true ((rd_T59 l0 x14_1).f0) ((rd_T59 l0 x14_1).f1) ((rd_T59 l0 x14_1).f2)))) else (spec_GoodOps.j1 k1 l0 x14_1 l0 (l0.length : Int) x14_1 true ((rd_T59 l0 x14_1).f0) ((rd_T59 l0 x14_1).f1) ((rd_T59 l0 x14_1).f2))) = some r := H
                have A9 := Aside0.mk A90
                clear A90
                by_cases c10 : t123 = true
                · subst c10
                  have H1 : ((spec_l1In.f ((rd_T59 l0 x14_1).f1) 1 8).bind fun t124 => (if t124 = true then (if ((rd_T59 l0 x14_1).f2).toList = ([] : List UInt8) then (if ((rd_T59 l0 x14_1).f0) = 3 then (spec_GoodOps.j1 k1 l0 x14_1 l0 (l0.length : Int) x14_1 false ((rd_T59 l0 x14_1).f0) ((rd_T59 l0 x14_1).f1) ((rd_T59 l0 x14_1).f2)) else (spec_GoodOps.j1 k1 l0 x14_1 l0 (l0.length : Int) x14_1 true ((rd_T59 l0 x14_1).f0) ((rd_T59 l0 x14_1).f1) ((rd_T59 l0 x14_1).f2))) else (if ((rd_T59 l0 x14_1).f0) = 3 then (spec_GoodOps.j1 k1 l0 x14_1 l0 (l0.length : Int) x14_1 true ((rd_T59 l0 x14_1).f0) ((rd_T59 l0 x14_1).f1) ((rd_T59 l0 x14_1).f2)) else ((spec_l1Key.f k1 ((rd_T59 l0 x14_1).f2)).bind fun t125 => (spec_GoodOps.j1 k1 l0 x14_1 l0 (l0.length : Int) x14_1 (!t125) ((rd_T59 l0 x14_1).f0) ((rd_T59 l0 x14_1).f1) ((rd_T59 l0 x14_1).f2))))) else (spec_GoodOps.j1 k1 l0 x14_1 l0 (l0.length : Int) x14_1 true ((rd_T59 l0 x14_1).f0) ((rd_T59 l0 x14_1).f1) ((rd_T59 l0 x14_1).f2)))) = some r := by rw [if_pos rfl] at H; exact H
                  clear H
                  have H := H1
                  clear H1
                  replace H := Option.bind_eq_some_iff.mp H
                  obtain ⟨t124, A110, H⟩ := H
                  replace H : (if t124 = true then (if ((rd_T59 l0 x14_1).f2).toList = ([] : List UInt8) then (if ((rd_T59 l0 x14_1).f0) = 3 then (spec_GoodOps.j1 k1 l0 x14_1 l0 (l0.length : Int) x14_1 false ((rd_T59 l0 x14_1).f0) ((rd_T59 l0 x14_1).f1) ((rd_T59 l0 x14_1).f2)) else (spec_GoodOps.j1 k1 l0 x14_1 l0 (l0.length : Int) x14_1 true ((rd_T59 l0 x14_1).f0) ((rd_T59 l0 x14_1).f1) ((rd_T59 l0 x14_1).f2))) else (if ((rd_T59 l0 x14_1).f0) = 3 then (spec_GoodOps.j1 k1 l0 x14_1 l0 (l0.length : Int) x14_1 true ((rd_T59 l0 x14_1).f0) ((rd_T59 l0 x14_1).f1) ((rd_T59 l0 x14_1).f2)) else ((spec_l1Key.f k1 ((rd_T59 l0 x14_1).f2)).bind fun t125 => (spec_GoodOps.j1 k1 l0 x14_1 l0 (l0.length : Int) x14_1 (!t125) ((rd_T59 l0 x14_1).f0) ((rd_T59 l0 x14_1).f1) ((rd_T59 l0 x14_1).f2))))) else (spec_GoodOps.j1 k1 l0 x14_1 l0 (l0.length : Int) x14_1 true ((rd_T59 l0 x14_1).f0) ((rd_T59 l0 x14_1).f1) ((rd_T59 l0 x14_1).f2))) = some r := H
                  have A11 := Aside0.mk A110
                  clear A110
                  by_cases c12 : t124 = true
                  · subst c12
                    have H1 : (if ((rd_T59 l0 x14_1).f2).toList = ([] : List UInt8) then (if ((rd_T59 l0 x14_1).f0) = 3 then (spec_GoodOps.j1 k1 l0 x14_1 l0 (l0.length : Int) x14_1 false ((rd_T59 l0 x14_1).f0) ((rd_T59 l0 x14_1).f1) ((rd_T59 l0 x14_1).f2)) else (spec_GoodOps.j1 k1 l0 x14_1 l0 (l0.length : Int) x14_1 true ((rd_T59 l0 x14_1).f0) ((rd_T59 l0 x14_1).f1) ((rd_T59 l0 x14_1).f2))) else (if ((rd_T59 l0 x14_1).f0) = 3 then (spec_GoodOps.j1 k1 l0 x14_1 l0 (l0.length : Int) x14_1 true ((rd_T59 l0 x14_1).f0) ((rd_T59 l0 x14_1).f1) ((rd_T59 l0 x14_1).f2)) else ((spec_l1Key.f k1 ((rd_T59 l0 x14_1).f2)).bind fun t125 => (spec_GoodOps.j1 k1 l0 x14_1 l0 (l0.length : Int) x14_1 (!t125) ((rd_T59 l0 x14_1).f0) ((rd_T59 l0 x14_1).f1) ((rd_T59 l0 x14_1).f2))))) = some r := by rw [if_pos rfl] at H; exact H
                    clear H
                    have H := H1
                    clear H1
                    by_cases c13 : ((rd_T59 l0 x14_1).f2).toList = ([] : List UInt8)
                    · rw [if_pos c13] at H
                      have c13b0 : (((rd_T59 l0 x14_1).f2).toList == ([] : List UInt8)) = true := beq_iff_eq.mpr c13
                      have c13b1 : (((rd_T59 l0 x14_1).f2).toList != ([] : List UInt8)) = false := bne_eq_false_iff_eq.mpr c13
                      (try (have c13b2 : ((rd_T59 l0 x14_1).f2).toList.isEmpty = true := by simpa using c13))
                      (try (have c13b3 : (!((rd_T59 l0 x14_1).f2).toList.isEmpty) = false := by simpa using c13))
                      clear c13
                      (first | rw [c13b0] | (simp only [i64_w, i32_w]; rw [c13b0]) | skip)
                      by_cases c14 : ((rd_T59 l0 x14_1).f0) = 3
                      · rw [if_pos c14] at H
                        have c14b0 : (((rd_T59 l0 x14_1).f0) == 3) = true := beq_iff_eq.mpr c14
                        have c14b1 : (((rd_T59 l0 x14_1).f0) != 3) = false := bne_eq_false_iff_eq.mpr c14
                        clear c14
                        have H' := Aside0.mk H
                        clear H
                        have hcz15_0 : w7.cell? ⟨gb122, 0, none⟩ = some (.int .i64 0) := (blk_cell BK122.out 0).trans rfl
                        have hcz15_1 : w7.cell? ⟨gb122, 1, none⟩ = some (.int .i64 0) := (blk_cell BK122.out 1).trans rfl
                        have hcz15_2 : w7.cell? ⟨gb122, 2, none⟩ = some (.string (⟨#[]⟩ : ByteArray)) := (blk_cell BK122.out 2).trans rfl
                        have hfz15_0 := blk_frozen BK122.out 0
                        have hfz15_1 := blk_frozen BK122.out 1
                        have hfz15_2 := blk_frozen BK122.out 2
                        go_wp2_with (first | ((with_reducible refine gate_callee (f := 46) rfl ?_); refine goesL_ (some 21) rfl rfl Tryd.func46 (by kernel_rfl) rfl #[.int .i64 ((rd_T59 l0 x14_1).f0), .int .i64 1, .int .i64 3] rfl (by (try simp only [List.map_toArray, List.map_cons, List.map_nil]); first | done | rfl | (simp only [List.length_drop, List.length_take]; rfl)) ?_; (with_reducible refine (spec_l1In.calls ((rd_T59 l0 x14_1).f0) 1 3 true _ A9.out).mono ?_); rintro e w' ⟨rfl, ⟨nd, rfl⟩⟩; refine ⟨_, rfl, ?_⟩) | (go_at_call 46; (with_reducible refine (spec_l1In.calls ((rd_T59 l0 x14_1).f1) 1 8 true _ A11.out).mono ?_); rintro e w' ⟨rfl, ⟨nd, rfl⟩⟩))
                        go_meet
                        case rel => exact ⟨_, (false), (by first | rfl | (simp; done) | (simp [*]; done)), H', ⟨by have := HK1.out; first | omega | exact Nat.le_refl _⟩, ⟨by (with_reducible repeat (first | refine blk_drewN ?_ _ | refine blk_drew ?_ | refine blk_alloc ?_ _)); refine blk_put (cs := #[.int .i64 ((rd_T59 l0 x14_1).f0), .int .i64 ((rd_T59 l0 x14_1).f1), .string (⟨#[]⟩ : ByteArray)]) ?_ 2 _ rfl; (with_reducible repeat (first | refine blk_drewN ?_ _ | refine blk_drew ?_ | refine blk_alloc ?_ _)); refine blk_put (cs := #[.int .i64 ((rd_T59 l0 x14_1).f0), .int .i64 0, .string (⟨#[]⟩ : ByteArray)]) ?_ 1 _ rfl; (with_reducible repeat (first | refine blk_drewN ?_ _ | refine blk_drew ?_ | refine blk_alloc ?_ _)); refine blk_put (cs := #[.int .i64 0, .int .i64 0, .string (⟨#[]⟩ : ByteArray)]) ?_ 0 _ rfl; (with_reducible repeat (first | refine blk_drewN ?_ _ | refine blk_drew ?_ | refine blk_alloc ?_ _)); exact BK122.out⟩, ⟨by repeat (first | (with_reducible first | exact HB.out | apply below_alloc | apply pw_below_drewN | apply below_drew1 | refine below_set ?_ GE122.out) | exact HB.out)⟩⟩
                      · rw [if_neg c14] at H
                        have c14b0 : (((rd_T59 l0 x14_1).f0) == 3) = false := beq_eq_false_iff_ne.mpr c14
                        have c14b1 : (((rd_T59 l0 x14_1).f0) != 3) = true := bne_iff_ne.mpr c14
                        have H' := Aside0.mk H
                        clear H
                        have hcz16_0 : w7.cell? ⟨gb122, 0, none⟩ = some (.int .i64 0) := (blk_cell BK122.out 0).trans rfl
                        have hcz16_1 : w7.cell? ⟨gb122, 1, none⟩ = some (.int .i64 0) := (blk_cell BK122.out 1).trans rfl
                        have hcz16_2 : w7.cell? ⟨gb122, 2, none⟩ = some (.string (⟨#[]⟩ : ByteArray)) := (blk_cell BK122.out 2).trans rfl
                        have hfz16_0 := blk_frozen BK122.out 0
                        have hfz16_1 := blk_frozen BK122.out 1
                        have hfz16_2 := blk_frozen BK122.out 2
                        go_wp2_with (first | ((with_reducible refine gate_callee (f := 46) rfl ?_); refine goesL_ (some 21) rfl rfl Tryd.func46 (by kernel_rfl) rfl #[.int .i64 ((rd_T59 l0 x14_1).f0), .int .i64 1, .int .i64 3] rfl (by (try simp only [List.map_toArray, List.map_cons, List.map_nil]); first | done | rfl | (simp only [List.length_drop, List.length_take]; rfl)) ?_; (with_reducible refine (spec_l1In.calls ((rd_T59 l0 x14_1).f0) 1 3 true _ A9.out).mono ?_); rintro e w' ⟨rfl, ⟨nd, rfl⟩⟩; refine ⟨_, rfl, ?_⟩) | (go_at_call 46; (with_reducible refine (spec_l1In.calls ((rd_T59 l0 x14_1).f1) 1 8 true _ A11.out).mono ?_); rintro e w' ⟨rfl, ⟨nd, rfl⟩⟩))
                        go_meet
                        case rel => exact ⟨_, (true), (by first | rfl | (simp; done) | (simp [*]; done)), H', ⟨by have := HK1.out; first | omega | exact Nat.le_refl _⟩, ⟨by (with_reducible repeat (first | refine blk_drewN ?_ _ | refine blk_drew ?_ | refine blk_alloc ?_ _)); refine blk_put (cs := #[.int .i64 ((rd_T59 l0 x14_1).f0), .int .i64 ((rd_T59 l0 x14_1).f1), .string (⟨#[]⟩ : ByteArray)]) ?_ 2 _ rfl; (with_reducible repeat (first | refine blk_drewN ?_ _ | refine blk_drew ?_ | refine blk_alloc ?_ _)); refine blk_put (cs := #[.int .i64 ((rd_T59 l0 x14_1).f0), .int .i64 0, .string (⟨#[]⟩ : ByteArray)]) ?_ 1 _ rfl; (with_reducible repeat (first | refine blk_drewN ?_ _ | refine blk_drew ?_ | refine blk_alloc ?_ _)); refine blk_put (cs := #[.int .i64 0, .int .i64 0, .string (⟨#[]⟩ : ByteArray)]) ?_ 0 _ rfl; (with_reducible repeat (first | refine blk_drewN ?_ _ | refine blk_drew ?_ | refine blk_alloc ?_ _)); exact BK122.out⟩, ⟨by repeat (first | (with_reducible first | exact HB.out | apply below_alloc | apply pw_below_drewN | apply below_drew1 | refine below_set ?_ GE122.out) | exact HB.out)⟩⟩
                    · rw [if_neg c13] at H
                      have c13b0 : (((rd_T59 l0 x14_1).f2).toList == ([] : List UInt8)) = false := beq_eq_false_iff_ne.mpr c13
                      have c13b1 : (((rd_T59 l0 x14_1).f2).toList != ([] : List UInt8)) = true := bne_iff_ne.mpr c13
                      (try (have c13b2 : ((rd_T59 l0 x14_1).f2).toList.isEmpty = false := by simpa using c13))
                      (try (have c13b3 : (!((rd_T59 l0 x14_1).f2).toList.isEmpty) = true := by simpa using c13))
                      (first | rw [c13b0] | (simp only [i64_w, i32_w]; rw [c13b0]) | skip)
                      by_cases c17 : ((rd_T59 l0 x14_1).f0) = 3
                      · rw [if_pos c17] at H
                        have c17b0 : (((rd_T59 l0 x14_1).f0) == 3) = true := beq_iff_eq.mpr c17
                        have c17b1 : (((rd_T59 l0 x14_1).f0) != 3) = false := bne_eq_false_iff_eq.mpr c17
                        clear c17
                        have H' := Aside0.mk H
                        clear H
                        have hcz18_0 : w7.cell? ⟨gb122, 0, none⟩ = some (.int .i64 0) := (blk_cell BK122.out 0).trans rfl
                        have hcz18_1 : w7.cell? ⟨gb122, 1, none⟩ = some (.int .i64 0) := (blk_cell BK122.out 1).trans rfl
                        have hcz18_2 : w7.cell? ⟨gb122, 2, none⟩ = some (.string (⟨#[]⟩ : ByteArray)) := (blk_cell BK122.out 2).trans rfl
                        have hfz18_0 := blk_frozen BK122.out 0
                        have hfz18_1 := blk_frozen BK122.out 1
                        have hfz18_2 := blk_frozen BK122.out 2
                        go_wp2_with (first | ((with_reducible refine gate_callee (f := 46) rfl ?_); refine goesL_ (some 21) rfl rfl Tryd.func46 (by kernel_rfl) rfl #[.int .i64 ((rd_T59 l0 x14_1).f0), .int .i64 1, .int .i64 3] rfl (by (try simp only [List.map_toArray, List.map_cons, List.map_nil]); first | done | rfl | (simp only [List.length_drop, List.length_take]; rfl)) ?_; (with_reducible refine (spec_l1In.calls ((rd_T59 l0 x14_1).f0) 1 3 true _ A9.out).mono ?_); rintro e w' ⟨rfl, ⟨nd, rfl⟩⟩; refine ⟨_, rfl, ?_⟩) | (go_at_call 46; (with_reducible refine (spec_l1In.calls ((rd_T59 l0 x14_1).f1) 1 8 true _ A11.out).mono ?_); rintro e w' ⟨rfl, ⟨nd, rfl⟩⟩))
                        go_meet
                        case rel => exact ⟨_, (true), (by first | rfl | (simp; done) | (simp [*]; done)), H', ⟨by have := HK1.out; first | omega | exact Nat.le_refl _⟩, ⟨by (with_reducible repeat (first | refine blk_drewN ?_ _ | refine blk_drew ?_ | refine blk_alloc ?_ _)); refine blk_put (cs := #[.int .i64 ((rd_T59 l0 x14_1).f0), .int .i64 ((rd_T59 l0 x14_1).f1), .string (⟨#[]⟩ : ByteArray)]) ?_ 2 _ rfl; (with_reducible repeat (first | refine blk_drewN ?_ _ | refine blk_drew ?_ | refine blk_alloc ?_ _)); refine blk_put (cs := #[.int .i64 ((rd_T59 l0 x14_1).f0), .int .i64 0, .string (⟨#[]⟩ : ByteArray)]) ?_ 1 _ rfl; (with_reducible repeat (first | refine blk_drewN ?_ _ | refine blk_drew ?_ | refine blk_alloc ?_ _)); refine blk_put (cs := #[.int .i64 0, .int .i64 0, .string (⟨#[]⟩ : ByteArray)]) ?_ 0 _ rfl; (with_reducible repeat (first | refine blk_drewN ?_ _ | refine blk_drew ?_ | refine blk_alloc ?_ _)); exact BK122.out⟩, ⟨by repeat (first | (with_reducible first | exact HB.out | apply below_alloc | apply pw_below_drewN | apply below_drew1 | refine below_set ?_ GE122.out) | exact HB.out)⟩⟩
                      · rw [if_neg c17] at H
                        have c17b0 : (((rd_T59 l0 x14_1).f0) == 3) = false := beq_eq_false_iff_ne.mpr c17
                        have c17b1 : (((rd_T59 l0 x14_1).f0) != 3) = true := bne_iff_ne.mpr c17
                        replace H := Option.bind_eq_some_iff.mp H
                        obtain ⟨t125, A190, H⟩ := H
                        replace H : (spec_GoodOps.j1 k1 l0 x14_1 l0 (l0.length : Int) x14_1 (!t125) ((rd_T59 l0 x14_1).f0) ((rd_T59 l0 x14_1).f1) ((rd_T59 l0 x14_1).f2)) = some r := H
                        have A19 := Aside0.mk A190
                        clear A190
                        have H' := Aside0.mk H
                        clear H
                        have hcz20_0 : w7.cell? ⟨gb122, 0, none⟩ = some (.int .i64 0) := (blk_cell BK122.out 0).trans rfl
                        have hcz20_1 : w7.cell? ⟨gb122, 1, none⟩ = some (.int .i64 0) := (blk_cell BK122.out 1).trans rfl
                        have hcz20_2 : w7.cell? ⟨gb122, 2, none⟩ = some (.string (⟨#[]⟩ : ByteArray)) := (blk_cell BK122.out 2).trans rfl
                        have hfz20_0 := blk_frozen BK122.out 0
                        have hfz20_1 := blk_frozen BK122.out 1
                        have hfz20_2 := blk_frozen BK122.out 2
                        go_wp2_with (first | ((with_reducible refine gate_callee (f := 46) rfl ?_); refine goesL_ (some 21) rfl rfl Tryd.func46 (by kernel_rfl) rfl #[.int .i64 ((rd_T59 l0 x14_1).f0), .int .i64 1, .int .i64 3] rfl (by (try simp only [List.map_toArray, List.map_cons, List.map_nil]); first | done | rfl | (simp only [List.length_drop, List.length_take]; rfl)) ?_; (with_reducible refine (spec_l1In.calls ((rd_T59 l0 x14_1).f0) 1 3 true _ A9.out).mono ?_); rintro e w' ⟨rfl, ⟨nd, rfl⟩⟩; refine ⟨_, rfl, ?_⟩) | (go_at_call 46; (with_reducible refine (spec_l1In.calls ((rd_T59 l0 x14_1).f1) 1 8 true _ A11.out).mono ?_); rintro e w' ⟨rfl, ⟨nd, rfl⟩⟩) | (go_at_call 47; (with_reducible refine (spec_l1Key.calls k1 ((rd_T59 l0 x14_1).f2) t125 _ A19.out).mono ?_); rintro e w' ⟨rfl, ⟨nd, rfl⟩⟩))
                        go_meet
                        case rel => exact ⟨_, (!t125), (by first | rfl | (simp; done) | (simp [*]; done)), H', ⟨by have := HK1.out; first | omega | exact Nat.le_refl _⟩, ⟨by (with_reducible repeat (first | refine blk_drewN ?_ _ | refine blk_drew ?_ | refine blk_alloc ?_ _)); refine blk_put (cs := #[.int .i64 ((rd_T59 l0 x14_1).f0), .int .i64 ((rd_T59 l0 x14_1).f1), .string (⟨#[]⟩ : ByteArray)]) ?_ 2 _ rfl; (with_reducible repeat (first | refine blk_drewN ?_ _ | refine blk_drew ?_ | refine blk_alloc ?_ _)); refine blk_put (cs := #[.int .i64 ((rd_T59 l0 x14_1).f0), .int .i64 0, .string (⟨#[]⟩ : ByteArray)]) ?_ 1 _ rfl; (with_reducible repeat (first | refine blk_drewN ?_ _ | refine blk_drew ?_ | refine blk_alloc ?_ _)); refine blk_put (cs := #[.int .i64 0, .int .i64 0, .string (⟨#[]⟩ : ByteArray)]) ?_ 0 _ rfl; (with_reducible repeat (first | refine blk_drewN ?_ _ | refine blk_drew ?_ | refine blk_alloc ?_ _)); exact BK122.out⟩, ⟨by repeat (first | (with_reducible first | exact HB.out | apply below_alloc | apply pw_below_drewN | apply below_drew1 | refine below_set ?_ GE122.out) | exact HB.out)⟩⟩
                  · replace c12 := Bool.eq_false_iff.mpr c12
                    subst c12
                    have H1 : (spec_GoodOps.j1 k1 l0 x14_1 l0 (l0.length : Int) x14_1 true ((rd_T59 l0 x14_1).f0) ((rd_T59 l0 x14_1).f1) ((rd_T59 l0 x14_1).f2)) = some r := by rw [if_neg (show ¬ (false = true) by decide)] at H; exact H
                    clear H
                    have H := H1
                    clear H1
                    have H' := Aside0.mk H
                    clear H
                    have hcz21_0 : w7.cell? ⟨gb122, 0, none⟩ = some (.int .i64 0) := (blk_cell BK122.out 0).trans rfl
                    have hcz21_1 : w7.cell? ⟨gb122, 1, none⟩ = some (.int .i64 0) := (blk_cell BK122.out 1).trans rfl
                    have hcz21_2 : w7.cell? ⟨gb122, 2, none⟩ = some (.string (⟨#[]⟩ : ByteArray)) := (blk_cell BK122.out 2).trans rfl
                    have hfz21_0 := blk_frozen BK122.out 0
                    have hfz21_1 := blk_frozen BK122.out 1
                    have hfz21_2 := blk_frozen BK122.out 2
                    go_wp2_with (first | ((with_reducible refine gate_callee (f := 46) rfl ?_); refine goesL_ (some 21) rfl rfl Tryd.func46 (by kernel_rfl) rfl #[.int .i64 ((rd_T59 l0 x14_1).f0), .int .i64 1, .int .i64 3] rfl (by (try simp only [List.map_toArray, List.map_cons, List.map_nil]); first | done | rfl | (simp only [List.length_drop, List.length_take]; rfl)) ?_; (with_reducible refine (spec_l1In.calls ((rd_T59 l0 x14_1).f0) 1 3 true _ A9.out).mono ?_); rintro e w' ⟨rfl, ⟨nd, rfl⟩⟩; refine ⟨_, rfl, ?_⟩) | (go_at_call 46; (with_reducible refine (spec_l1In.calls ((rd_T59 l0 x14_1).f1) 1 8 false _ A11.out).mono ?_); rintro e w' ⟨rfl, ⟨nd, rfl⟩⟩))
                    go_meet
                    case rel => exact ⟨_, (true), (by first | rfl | (simp; done) | (simp [*]; done)), H', ⟨by have := HK1.out; first | omega | exact Nat.le_refl _⟩, ⟨by (with_reducible repeat (first | refine blk_drewN ?_ _ | refine blk_drew ?_ | refine blk_alloc ?_ _)); refine blk_put (cs := #[.int .i64 ((rd_T59 l0 x14_1).f0), .int .i64 ((rd_T59 l0 x14_1).f1), .string (⟨#[]⟩ : ByteArray)]) ?_ 2 _ rfl; (with_reducible repeat (first | refine blk_drewN ?_ _ | refine blk_drew ?_ | refine blk_alloc ?_ _)); refine blk_put (cs := #[.int .i64 ((rd_T59 l0 x14_1).f0), .int .i64 0, .string (⟨#[]⟩ : ByteArray)]) ?_ 1 _ rfl; (with_reducible repeat (first | refine blk_drewN ?_ _ | refine blk_drew ?_ | refine blk_alloc ?_ _)); refine blk_put (cs := #[.int .i64 0, .int .i64 0, .string (⟨#[]⟩ : ByteArray)]) ?_ 0 _ rfl; (with_reducible repeat (first | refine blk_drewN ?_ _ | refine blk_drew ?_ | refine blk_alloc ?_ _)); exact BK122.out⟩, ⟨by repeat (first | (with_reducible first | exact HB.out | apply below_alloc | apply pw_below_drewN | apply below_drew1 | refine below_set ?_ GE122.out) | exact HB.out)⟩⟩
                · replace c10 := Bool.eq_false_iff.mpr c10
                  subst c10
                  have H1 : (spec_GoodOps.j1 k1 l0 x14_1 l0 (l0.length : Int) x14_1 true ((rd_T59 l0 x14_1).f0) ((rd_T59 l0 x14_1).f1) ((rd_T59 l0 x14_1).f2)) = some r := by rw [if_neg (show ¬ (false = true) by decide)] at H; exact H
                  clear H
                  have H := H1
                  clear H1
                  have H' := Aside0.mk H
                  clear H
                  have hcz22_0 : w7.cell? ⟨gb122, 0, none⟩ = some (.int .i64 0) := (blk_cell BK122.out 0).trans rfl
                  have hcz22_1 : w7.cell? ⟨gb122, 1, none⟩ = some (.int .i64 0) := (blk_cell BK122.out 1).trans rfl
                  have hcz22_2 : w7.cell? ⟨gb122, 2, none⟩ = some (.string (⟨#[]⟩ : ByteArray)) := (blk_cell BK122.out 2).trans rfl
                  have hfz22_0 := blk_frozen BK122.out 0
                  have hfz22_1 := blk_frozen BK122.out 1
                  have hfz22_2 := blk_frozen BK122.out 2
                  go_wp2_with (first | ((with_reducible refine gate_callee (f := 46) rfl ?_); refine goesL_ (some 21) rfl rfl Tryd.func46 (by kernel_rfl) rfl #[.int .i64 ((rd_T59 l0 x14_1).f0), .int .i64 1, .int .i64 3] rfl (by (try simp only [List.map_toArray, List.map_cons, List.map_nil]); first | done | rfl | (simp only [List.length_drop, List.length_take]; rfl)) ?_; (with_reducible refine (spec_l1In.calls ((rd_T59 l0 x14_1).f0) 1 3 false _ A9.out).mono ?_); rintro e w' ⟨rfl, ⟨nd, rfl⟩⟩; refine ⟨_, rfl, ?_⟩))
                  go_meet
                  case rel => exact ⟨_, (true), (by first | rfl | (simp; done) | (simp [*]; done)), H', ⟨by have := HK1.out; first | omega | exact Nat.le_refl _⟩, ⟨by (with_reducible repeat (first | refine blk_drewN ?_ _ | refine blk_drew ?_ | refine blk_alloc ?_ _)); refine blk_put (cs := #[.int .i64 ((rd_T59 l0 x14_1).f0), .int .i64 ((rd_T59 l0 x14_1).f1), .string (⟨#[]⟩ : ByteArray)]) ?_ 2 _ rfl; (with_reducible repeat (first | refine blk_drewN ?_ _ | refine blk_drew ?_ | refine blk_alloc ?_ _)); refine blk_put (cs := #[.int .i64 ((rd_T59 l0 x14_1).f0), .int .i64 0, .string (⟨#[]⟩ : ByteArray)]) ?_ 1 _ rfl; (with_reducible repeat (first | refine blk_drewN ?_ _ | refine blk_drew ?_ | refine blk_alloc ?_ _)); refine blk_put (cs := #[.int .i64 0, .int .i64 0, .string (⟨#[]⟩ : ByteArray)]) ?_ 0 _ rfl; (with_reducible repeat (first | refine blk_drewN ?_ _ | refine blk_drew ?_ | refine blk_alloc ?_ _)); exact BK122.out⟩, ⟨by repeat (first | (with_reducible first | exact HB.out | apply below_alloc | apply pw_below_drewN | apply below_drew1 | refine below_set ?_ GE122.out) | exact HB.out)⟩⟩
              case rest =>
                clear HC6
                try clear c1
                try clear p1
                try clear q1
                try clear hx1
                try clear c2
                try clear c2b0
                try clear c2b1
                try clear p2
                try clear c3
                try clear c3b0
                try clear c4
                try clear c4b0
                try clear c5
                try clear c5b0
                try clear c10
                try clear c12
                try clear p12
                try clear q12
                try clear hx12
                try clear c13
                try clear c13b0
                try clear c13b1
                try clear c13b2
                try clear c14
                try clear c14b0
                try clear c14b1
                try clear c17
                try clear c17b0
                try clear c17b1
                try clear hcz15_0
                try clear hcz15_1
                try clear hcz15_2
                try clear hcz16_0
                try clear hcz16_1
                try clear hcz16_2
                try clear hcz18_0
                try clear hcz18_1
                try clear hcz18_2
                try clear hcz20_0
                try clear hcz20_1
                try clear hcz20_2
                try clear hcz21_0
                try clear hcz21_1
                try clear hcz21_2
                try clear hcz22_0
                try clear hcz22_1
                try clear hcz22_2
                try clear hcz8_0
                try clear hcz8_1
                try clear hcz8_2
                try clear hfz15_0
                try clear hfz15_1
                try clear hfz15_2
                try clear hfz16_0
                try clear hfz16_1
                try clear hfz16_2
                try clear hfz18_0
                try clear hfz18_1
                try clear hfz18_2
                try clear hfz20_0
                try clear hfz20_1
                try clear hfz20_2
                try clear hfz21_0
                try clear hfz21_1
                try clear hfz21_2
                try clear hfz22_0
                try clear hfz22_1
                try clear hfz22_2
                try clear hfz8_0
                try clear hfz8_1
                try clear hfz8_2
                try clear hx121_0
                try clear hx121_1
                try clear hx121_2
                try clear p121
                try clear p2
                try clear q121
                obtain ⟨kq, x48_5, rfl, HA, HJ5, BK122, HB⟩ := hcut
                cases kq with
                | zero => exact absurd HA.out (by simp [spec_GoodOps.j1])
                | succ kj5 =>
                  have H := HA.out
                  clear HA
                  simp only [spec_GoodOps.j1] at H
                  by_cases c23 : x48_5 = true
                  · subst c23
                    have H1 : (some false) = some r := by rw [if_pos rfl] at H; exact H
                    clear H
                    have H := H1
                    clear H1
                    obtain rfl := Option.some.inj H
                    go_wp2
                    go_ret
                    exact ⟨by first | rfl | (simp [errW_none, errW_some] <;> rfl) | (simp [*, errW_none, errW_some] <;> rfl), by repeat (first | (with_reducible first | exact HB.out | apply below_alloc | apply pw_below_drewN | apply below_drew1 | refine below_set ?_ GE122.out) | exact HB.out)⟩
                  · replace c23 := Bool.eq_false_iff.mpr c23
                    subst c23
                    have H1 : (if 0 ≤ (wrap64 (x14_1 + 1)) then (if (wrap64 (x14_1 + 1)) ≤ (l0.length : Int) then ((some (l0.drop ((wrap64 (x14_1 + 1)) : Int).toNat : List (S59))).bind fun y126 => (spec_GoodOps.l1 kj5 l0 false false l0 (l0.length : Int) x14_1 y126 (y126.length : Int) 0 ((rd_T59 l0 x14_1).f0) ((rd_T59 l0 x14_1).f1) ((rd_T59 l0 x14_1).f2))) else (none)) else (none)) = some r := by rw [if_neg (show ¬ (false = true) by decide)] at H; exact H
                    clear H
                    have H := H1
                    clear H1
                    obtain ⟨ji24, hji24⟩ : ∃ j_ : Int, (wrap64 (x14_1 + 1)) = j_ := ⟨_, rfl⟩
                    replace H : (if 0 ≤ (ji24) then (if (ji24) ≤ (l0.length : Int) then ((some (l0.drop ((ji24) : Int).toNat : List (S59))).bind fun y126 => (spec_GoodOps.l1 kj5 l0 false false l0 (l0.length : Int) x14_1 y126 (y126.length : Int) 0 ((rd_T59 l0 x14_1).f0) ((rd_T59 l0 x14_1).f1) ((rd_T59 l0 x14_1).f2))) else (none)) else (none)) = some r := by first | (rw [hji24] at H; exact H) | (simp only [hji24] at H ⊢; exact H)
                    have hji24w : (IntKind.i64.wrap (x14_1 + 1)) = ji24 := (i64_w _).trans hji24
                    by_cases c25 : 0 ≤ (ji24)
                    · rw [if_pos c25] at H
                      have c25b0 := eq_true c25
                      have c25b1 : decide (0 ≤ (ji24)) = true := decide_eq_true c25
                      clear c25
                      by_cases c26 : (ji24) ≤ (l0.length : Int)
                      · rw [if_pos c26] at H
                        have c26b0 := eq_true c26
                        have c26b1 : decide ((ji24) ≤ (l0.length : Int)) = true := decide_eq_true c26
                        clear c26
                        obtain ⟨y126, hy126⟩ : ∃ y_ : List (S59), y_ = (l0.drop ((ji24) : Int).toNat) := ⟨_, rfl⟩
                        replace H : (spec_GoodOps.l1 kj5 l0 false false l0 (l0.length : Int) x14_1 y126 (y126.length : Int) 0 ((rd_T59 l0 x14_1).f0) ((rd_T59 l0 x14_1).f1) ((rd_T59 l0 x14_1).f2)) = some r := by first | (rw [hy126]; with_reducible exact H) | (have H2_ := (Option.bind_some _ _).symm.trans H; rw [hy126]; with_reducible exact H2_) | (have H2_ := (Option.bind_some _ _).symm.trans H; with_reducible exact H2_) | with_reducible exact H | (rw [hy126]; exact H) | exact H
                        have Ny126 := Aside0.mk hy126
                        clear hy126
                        have H' := Aside0.mk H
                        clear H
                        have q27 : ((ji24) : Int) ≤ ((l0.length : Int) : Int) := of_decide_eq_true (by first | (with_reducible assumption) | assumption)
                        obtain ⟨i027, hi027, _, hsz27, _⟩ := info_parts info59
                        have hroom27 : l0.length ≤ c0 := HC0.out
                        have hC27 : Kd.C k59 _ (some ad121) l0.length l0 := HR0.out
                        have q027 : (0 : Int) ≤ ((ji24) : Int) := of_decide_eq_true (by first | (with_reducible assumption) | assumption)
                        have hcut27 := cut_from (P := Tryd.prog) 25 59 .i64 Tryd.underlying25 hi027 3 hsz27 (some ad121) l0.length c0 (ji24) q027 q27
                        have hr27 := Kd.C_drop (m := ((ji24) : Int).toNat) (c := c0) hC27 (by omega) hroom27
                        obtain ⟨A27, hA27⟩ : ∃ A1, A1 = (if c0 = ((ji24) : Int).toNat then (some ad121) else ((some ad121) : Option Addr).map (·.add (((ji24) : Int).toNat * 3))) := ⟨_, rfl⟩
                        obtain ⟨c27, hc27⟩ : ∃ c1, c1 = c0 - ((ji24) : Int).toNat := ⟨_, rfl⟩
                        have hy27 : y126.length = l0.length - ((ji24) : Int).toNat := (by rw [Ny126.out, List.length_drop] <;> omega)
                        rw [show (l0).drop ((ji24) : Int).toNat = y126 from Ny126.out.symm] at hr27
                        replace hr27 : Kd.C k59 _ A27 y126.length y126 := (by rw [hA27]; exact hr27)
                        rw [← hy27, ← hA27, ← hc27] at hcut27
                        have HR129 := Aside0.mk hr27
                        have HC129 := Aside0.mk (show y126.length ≤ c27 from by rw [hy27, hc27]; exact Nat.sub_le_sub_right hroom27 _)
                        clear hr27 hC27 hroom27 hi027 hsz27 hc27
                        have KY27 := Aside0.mk hy27
                        have KA27 := Aside0.mk hA27
                        clear hy27 hA27
                        replace q27 := eq_true q27
                        go_wp2
                        go_loopg [5, 6, 54] kj5 (fun kq v5 v6 v54 w' => ∃ (x5_3 : Bool) (x6_3 : Bool) (x54_3 : Int), v5 = .bool x5_3 ∧ v6 = .bool x6_3 ∧ v54 = .int .i64 x54_3 ∧ Aside0 (spec_GoodOps.l1 kq l0 x5_3 x6_3 l0 (l0.length : Int) x14_1 y126 (y126.length : Int) x54_3 ((rd_T59 l0 x14_1).f0) ((rd_T59 l0 x14_1).f1) ((rd_T59 l0 x14_1).f2) = some r) ∧ Aside0 (kq ≤ kj5) ∧ Aside0 (w'.heap[gb122]? = some (.cells #[.int .i64 ((rd_T59 l0 x14_1).f0), .int .i64 ((rd_T59 l0 x14_1).f1), .string ((rd_T59 l0 x14_1).f2)] 59 (0, 0))) ∧ Aside0 (Below w.heap.size w w'))
                        case atStart => exact ⟨(false), (false), (0), (by first | rfl | (simp; done) | (simp [*]; done)), (by first | rfl | (simp; done) | (simp [*]; done)), (by first | rfl | (simp; done) | (simp [*]; done)), H', ⟨Nat.le_refl _⟩, ⟨by (with_reducible repeat (first | refine blk_drewN ?_ _ | refine blk_drew ?_ | refine blk_alloc ?_ _)); exact BK122.out⟩, ⟨by repeat (first | (with_reducible first | exact HB.out | apply below_alloc | apply pw_below_drewN | apply below_drew1 | refine below_set ?_ GE122.out) | exact HB.out)⟩⟩
                        case round =>
                          clear H'
                          try clear c1
                          try clear p1
                          try clear q1
                          try clear hx1
                          try clear c2
                          try clear c2b0
                          try clear c2b1
                          try clear p2
                          try clear q2
                          try clear c3
                          try clear c3b0
                          try clear c4
                          try clear c4b0
                          try clear c5
                          try clear c5b0
                          try clear p6
                          try clear c10
                          try clear c12
                          try clear p12
                          try clear q12
                          try clear hx12
                          try clear c13
                          try clear c13b0
                          try clear c13b1
                          try clear c13b2
                          try clear c14
                          try clear c14b0
                          try clear c14b1
                          try clear c17
                          try clear c17b0
                          try clear c17b1
                          try clear c23
                          try clear c25
                          try clear c25b0
                          try clear c25b1
                          try clear c26
                          try clear c26b0
                          try clear c26b1
                          try clear c27
                          try clear q27
                          try clear hcz15_0
                          try clear hcz15_1
                          try clear hcz15_2
                          try clear hcz16_0
                          try clear hcz16_1
                          try clear hcz16_2
                          try clear hcz18_0
                          try clear hcz18_1
                          try clear hcz18_2
                          try clear hcz20_0
                          try clear hcz20_1
                          try clear hcz20_2
                          try clear hcz21_0
                          try clear hcz21_1
                          try clear hcz21_2
                          try clear hcz22_0
                          try clear hcz22_1
                          try clear hcz22_2
                          try clear hcz8_0
                          try clear hcz8_1
                          try clear hcz8_2
                          try clear hfz15_0
                          try clear hfz15_1
                          try clear hfz15_2
                          try clear hfz16_0
                          try clear hfz16_1
                          try clear hfz16_2
                          try clear hfz18_0
                          try clear hfz18_1
                          try clear hfz18_2
                          try clear hfz20_0
                          try clear hfz20_1
                          try clear hfz20_2
                          try clear hfz21_0
                          try clear hfz21_1
                          try clear hfz21_2
                          try clear hfz22_0
                          try clear hfz22_1
                          try clear hfz22_2
                          try clear hfz8_0
                          try clear hfz8_1
                          try clear hfz8_2
                          try clear hx121_0
                          try clear hx121_1
                          try clear hx121_2
                          try clear p1
                          try clear p12
                          try clear p121
                          try clear p2
                          try clear q027
                          try clear q1
                          try clear q12
                          try clear q121
                          try clear q27
                          obtain ⟨x5_3, x6_3, x54_3, rfl, rfl, rfl, HA, HK3, BK122, HB⟩ := hrel
                          cases gk with
                          | zero => exact absurd HA.out (by simp [spec_GoodOps.l1])
                          | succ k3 =>
                            have H := HA.out
                            clear HA
                            simp only [spec_GoodOps.l1] at H
                            by_cases c28 : x54_3 < (y126.length : Int)
                            · rw [if_pos c28] at H
                              have c28b0 : decide (x54_3 < (y126.length : Int)) = true := decide_eq_true c28
                              clear c28
                              by_cases c29 : 0 ≤ x54_3
                              · rw [if_pos c29] at H
                                have c29b0 : decide (0 ≤ x54_3) = true := decide_eq_true c29
                                clear c29
                                by_cases c30 : x54_3 < (y126.length : Int)
                                · rw [if_pos c30] at H
                                  have c30b0 : decide (x54_3 < (y126.length : Int)) = true := decide_eq_true c30
                                  clear c30
                                  by_cases c31 : x5_3 = true
                                  · subst c31
                                    have H1 : (if x6_3 = true then (spec_GoodOps.l1 k3 l0 true true l0 (l0.length : Int) x14_1 y126 (y126.length : Int) (wrap64 (x54_3 + 1)) ((rd_T59 l0 x14_1).f0) ((rd_T59 l0 x14_1).f1) ((rd_T59 l0 x14_1).f2)) else (if ((rd_T59 y126 x54_3).f1) = ((rd_T59 l0 x14_1).f1) then (spec_GoodOps.l1 k3 l0 true (((rd_T59 y126 x54_3).f0) == 3) l0 (l0.length : Int) x14_1 y126 (y126.length : Int) (wrap64 (x54_3 + 1)) ((rd_T59 l0 x14_1).f0) ((rd_T59 l0 x14_1).f1) ((rd_T59 l0 x14_1).f2)) else (spec_GoodOps.l1 k3 l0 true false l0 (l0.length : Int) x14_1 y126 (y126.length : Int) (wrap64 (x54_3 + 1)) ((rd_T59 l0 x14_1).f0) ((rd_T59 l0 x14_1).f1) ((rd_T59 l0 x14_1).f2)))) = some r := by rw [if_pos rfl] at H; exact H
                                    clear H
                                    have H := H1
                                    clear H1
                                    by_cases c32 : x6_3 = true
                                    · subst c32
                                      have H1 : (spec_GoodOps.l1 k3 l0 true true l0 (l0.length : Int) x14_1 y126 (y126.length : Int) (wrap64 (x54_3 + 1)) ((rd_T59 l0 x14_1).f0) ((rd_T59 l0 x14_1).f1) ((rd_T59 l0 x14_1).f2)) = some r := by rw [if_pos rfl] at H; exact H
                                      clear H
                                      have H := H1
                                      clear H1
                                      have H' := Aside0.mk H
                                      clear H
                                      have p130 : 0 ≤ (x54_3 : Int) := of_decide_eq_true (by first | (with_reducible assumption) | assumption)
                                      have q130 : x54_3 < (y126.length : Int) := of_decide_eq_true (by first | (with_reducible assumption) | assumption)
                                      obtain ⟨ad130, e130, hx130_0, hx130_1, hx130_2⟩ := at_T59 HR129.out x54_3 p130 q130
                                      cases e130
                                      replace hx130_0 := (HB.out.cell (World.block_lt_of_cell? w _ hx130_0)).trans hx130_0
                                      replace hx130_1 := (HB.out.cell (World.block_lt_of_cell? w _ hx130_1)).trans hx130_1
                                      replace hx130_2 := (HB.out.cell (World.block_lt_of_cell? w _ hx130_2)).trans hx130_2
                                      replace p130 := eq_true p130
                                      replace q130 := eq_true q130
                                      go_wp2_with (first | ((with_reducible refine gate_dst (N := 8) rfl ?_); refine box_event ?hg (N := 8) ?hd (cs := #[.int .i64 0, .int .i64 0, .string (⟨#[]⟩ : ByteArray)]) (t := 59) ?hr ?_; (case hd => rfl); (case hg => rfl); (case hr => first | (go_simp; done) | (go_simp; rfl)); intro gb131 hg w33 hbox hb; have n0_ := Aside0.mk (blk_below (g := gb122) (o := .cells #[.int .i64 ((rd_T59 l0 x14_1).f0), .int .i64 ((rd_T59 l0 x14_1).f1), .string ((rd_T59 l0 x14_1).f2)] 59 (0, 0)) (by (with_reducible repeat (first | refine blk_drewN ?_ _ | refine blk_drew ?_ | refine blk_alloc ?_ _)); exact BK122.out) hb); have n1_ := Aside0.mk (below_step (by repeat (first | (with_reducible first | exact HB.out | apply below_alloc | apply pw_below_drewN | apply below_drew1 | refine below_set ?_ GE122.out) | exact HB.out)) hb); have n2_ := Aside0.mk (hbox); have n3_ := Aside0.mk ((by rw [hg]; exact (below_size (by repeat (first | (with_reducible first | exact HB.out | apply below_alloc | apply pw_below_drewN | apply below_drew1 | refine below_set ?_ GE122.out) | exact HB.out))) : w.heap.size ≤ gb131)); have n4_ := Aside0.mk ((by rw [hg]; exact (below_size (by repeat (first | (with_reducible first | exact HB.out | apply below_alloc | apply pw_below_drewN | apply below_drew1 | refine below_set ?_ GE122.out) | exact HB.out))) : w.heap.size ≤ gb131)); have n5_ := Aside0.mk ((by rw [hg]; exact Nat.ne_of_lt (blk_lt (g := gb122) (o := .cells #[.int .i64 ((rd_T59 l0 x14_1).f0), .int .i64 ((rd_T59 l0 x14_1).f1), .string ((rd_T59 l0 x14_1).f2)] 59 (0, 0)) (by (with_reducible repeat (first | refine blk_drewN ?_ _ | refine blk_drew ?_ | refine blk_alloc ?_ _)); exact BK122.out)) : gb122 ≠ gb131)); have n6_ := Aside0.mk ((by rw [hg]; exact Nat.ne_of_gt (blk_lt (g := gb122) (o := .cells #[.int .i64 ((rd_T59 l0 x14_1).f0), .int .i64 ((rd_T59 l0 x14_1).f1), .string ((rd_T59 l0 x14_1).f2)] 59 (0, 0)) (by (with_reducible repeat (first | refine blk_drewN ?_ _ | refine blk_drew ?_ | refine blk_alloc ?_ _)); exact BK122.out)) : gb131 ≠ gb122)); clear BK122; clear HB; have BK122 := n0_; have HB := n1_; have BK131 := n2_; have GW131 := n3_; have GE131 := n4_; have NB122_131 := n5_; have NB131_122 := n6_; clear n0_ n1_ n2_ n3_ n4_ n5_ n6_; clear hb hbox hg; have hnb34 := NB131_122.out; have hnc34 := NB122_131.out; have hcz35_0 : w33.cell? ⟨gb131, 0, none⟩ = some (.int .i64 0) := (blk_cell BK131.out 0).trans rfl; have hcz35_1 : w33.cell? ⟨gb131, 1, none⟩ = some (.int .i64 0) := (blk_cell BK131.out 1).trans rfl; have hcz35_2 : w33.cell? ⟨gb131, 2, none⟩ = some (.string (⟨#[]⟩ : ByteArray)) := (blk_cell BK131.out 2).trans rfl; have hfz35_0 := blk_frozen BK131.out 0; have hfz35_1 := blk_frozen BK131.out 1; have hfz35_2 := blk_frozen BK131.out 2))
                                      go_roundg k3
                                      case measure => have := HK1.out; have := HJ5.out; have := HK3.out; omega
                                      case rel => exact ⟨(true), (true), (wrap64 (x54_3 + 1)), (by first | rfl | (simp; done) | (simp [*]; done)), (by first | rfl | (simp; done) | (simp [*]; done)), (by first | rfl | (simp; done) | (simp [*]; done)), H', ⟨by have := HK1.out; have := HJ5.out; have := HK3.out; omega⟩, ⟨by (with_reducible repeat (first | refine blk_drewN ?_ _ | refine blk_drew ?_ | refine blk_alloc ?_ _)); refine blk_far ?_ NB122_131.out _; (with_reducible repeat (first | refine blk_drewN ?_ _ | refine blk_drew ?_ | refine blk_alloc ?_ _)); refine blk_far ?_ NB122_131.out _; (with_reducible repeat (first | refine blk_drewN ?_ _ | refine blk_drew ?_ | refine blk_alloc ?_ _)); refine blk_far ?_ NB122_131.out _; (with_reducible repeat (first | refine blk_drewN ?_ _ | refine blk_drew ?_ | refine blk_alloc ?_ _)); exact BK122.out⟩, ⟨by repeat (first | (with_reducible first | exact HB.out | apply below_alloc | apply pw_below_drewN | apply below_drew1 | refine below_set ?_ GE122.out | refine below_set ?_ GE131.out) | exact HB.out)⟩⟩
                                    · replace c32 := Bool.eq_false_iff.mpr c32
                                      subst c32
                                      have H1 : (if ((rd_T59 y126 x54_3).f1) = ((rd_T59 l0 x14_1).f1) then (spec_GoodOps.l1 k3 l0 true (((rd_T59 y126 x54_3).f0) == 3) l0 (l0.length : Int) x14_1 y126 (y126.length : Int) (wrap64 (x54_3 + 1)) ((rd_T59 l0 x14_1).f0) ((rd_T59 l0 x14_1).f1) ((rd_T59 l0 x14_1).f2)) else (spec_GoodOps.l1 k3 l0 true false l0 (l0.length : Int) x14_1 y126 (y126.length : Int) (wrap64 (x54_3 + 1)) ((rd_T59 l0 x14_1).f0) ((rd_T59 l0 x14_1).f1) ((rd_T59 l0 x14_1).f2))) = some r := by rw [if_neg (show ¬ (false = true) by decide)] at H; exact H
                                      clear H
                                      have H := H1
                                      clear H1
                                      by_cases c36 : ((rd_T59 y126 x54_3).f1) = ((rd_T59 l0 x14_1).f1)
                                      · rw [if_pos c36] at H
                                        have c36b0 : (((rd_T59 y126 x54_3).f1) == ((rd_T59 l0 x14_1).f1)) = true := beq_iff_eq.mpr c36
                                        have c36b1 : (((rd_T59 y126 x54_3).f1) != ((rd_T59 l0 x14_1).f1)) = false := bne_eq_false_iff_eq.mpr c36
                                        clear c36
                                        have H' := Aside0.mk H
                                        clear H
                                        have p130 : 0 ≤ (x54_3 : Int) := of_decide_eq_true (by first | (with_reducible assumption) | assumption)
                                        have q130 : x54_3 < (y126.length : Int) := of_decide_eq_true (by first | (with_reducible assumption) | assumption)
                                        obtain ⟨ad130, e130, hx130_0, hx130_1, hx130_2⟩ := at_T59 HR129.out x54_3 p130 q130
                                        cases e130
                                        replace hx130_0 := (HB.out.cell (World.block_lt_of_cell? w _ hx130_0)).trans hx130_0
                                        replace hx130_1 := (HB.out.cell (World.block_lt_of_cell? w _ hx130_1)).trans hx130_1
                                        replace hx130_2 := (HB.out.cell (World.block_lt_of_cell? w _ hx130_2)).trans hx130_2
                                        replace p130 := eq_true p130
                                        replace q130 := eq_true q130
                                        go_wp2_with (first | ((with_reducible refine gate_dst (N := 8) rfl ?_); refine box_event ?hg (N := 8) ?hd (cs := #[.int .i64 0, .int .i64 0, .string (⟨#[]⟩ : ByteArray)]) (t := 59) ?hr ?_; (case hd => rfl); (case hg => rfl); (case hr => first | (go_simp; done) | (go_simp; rfl)); intro gb131 hg w37 hbox hb; have n0_ := Aside0.mk (blk_below (g := gb122) (o := .cells #[.int .i64 ((rd_T59 l0 x14_1).f0), .int .i64 ((rd_T59 l0 x14_1).f1), .string ((rd_T59 l0 x14_1).f2)] 59 (0, 0)) (by (with_reducible repeat (first | refine blk_drewN ?_ _ | refine blk_drew ?_ | refine blk_alloc ?_ _)); exact BK122.out) hb); have n1_ := Aside0.mk (below_step (by repeat (first | (with_reducible first | exact HB.out | apply below_alloc | apply pw_below_drewN | apply below_drew1 | refine below_set ?_ GE122.out) | exact HB.out)) hb); have n2_ := Aside0.mk (hbox); have n3_ := Aside0.mk ((by rw [hg]; exact (below_size (by repeat (first | (with_reducible first | exact HB.out | apply below_alloc | apply pw_below_drewN | apply below_drew1 | refine below_set ?_ GE122.out) | exact HB.out))) : w.heap.size ≤ gb131)); have n4_ := Aside0.mk ((by rw [hg]; exact (below_size (by repeat (first | (with_reducible first | exact HB.out | apply below_alloc | apply pw_below_drewN | apply below_drew1 | refine below_set ?_ GE122.out) | exact HB.out))) : w.heap.size ≤ gb131)); have n5_ := Aside0.mk ((by rw [hg]; exact Nat.ne_of_lt (blk_lt (g := gb122) (o := .cells #[.int .i64 ((rd_T59 l0 x14_1).f0), .int .i64 ((rd_T59 l0 x14_1).f1), .string ((rd_T59 l0 x14_1).f2)] 59 (0, 0)) (by (with_reducible repeat (first | refine blk_drewN ?_ _ | refine blk_drew ?_ | refine blk_alloc ?_ _)); exact BK122.out)) : gb122 ≠ gb131)); have n6_ := Aside0.mk ((by rw [hg]; exact Nat.ne_of_gt (blk_lt (g := gb122) (o := .cells #[.int .i64 ((rd_T59 l0 x14_1).f0), .int .i64 ((rd_T59 l0 x14_1).f1), .string ((rd_T59 l0 x14_1).f2)] 59 (0, 0)) (by (with_reducible repeat (first | refine blk_drewN ?_ _ | refine blk_drew ?_ | refine blk_alloc ?_ _)); exact BK122.out)) : gb131 ≠ gb122)); clear BK122; clear HB; have BK122 := n0_; have HB := n1_; have BK131 := n2_; have GW131 := n3_; have GE131 := n4_; have NB122_131 := n5_; have NB131_122 := n6_; clear n0_ n1_ n2_ n3_ n4_ n5_ n6_; clear hb hbox hg; have hnb38 := NB131_122.out; have hnc38 := NB122_131.out; have hcz39_0 : w37.cell? ⟨gb131, 0, none⟩ = some (.int .i64 0) := (blk_cell BK131.out 0).trans rfl; have hcz39_1 : w37.cell? ⟨gb131, 1, none⟩ = some (.int .i64 0) := (blk_cell BK131.out 1).trans rfl; have hcz39_2 : w37.cell? ⟨gb131, 2, none⟩ = some (.string (⟨#[]⟩ : ByteArray)) := (blk_cell BK131.out 2).trans rfl; have hfz39_0 := blk_frozen BK131.out 0; have hfz39_1 := blk_frozen BK131.out 1; have hfz39_2 := blk_frozen BK131.out 2; have hcz40_0 : w37.cell? ⟨gb122, 0, none⟩ = some (.int .i64 ((rd_T59 l0 x14_1).f0)) := (blk_cell BK122.out 0).trans rfl; have hcz40_1 : w37.cell? ⟨gb122, 1, none⟩ = some (.int .i64 ((rd_T59 l0 x14_1).f1)) := (blk_cell BK122.out 1).trans rfl; have hcz40_2 : w37.cell? ⟨gb122, 2, none⟩ = some (.string ((rd_T59 l0 x14_1).f2)) := (blk_cell BK122.out 2).trans rfl; have hfz40_0 := blk_frozen BK122.out 0; have hfz40_1 := blk_frozen BK122.out 1; have hfz40_2 := blk_frozen BK122.out 2))
                                        go_roundg k3
                                        case measure => have := HK1.out; have := HJ5.out; have := HK3.out; omega
                                        case rel => exact ⟨(true), ((((rd_T59 y126 x54_3).f0) == 3)), (wrap64 (x54_3 + 1)), (by first | rfl | (simp; done) | (simp [*]; done)), (by first | rfl | (simp; done) | (simp [*]; done)), (by first | rfl | (simp; done) | (simp [*]; done)), H', ⟨by have := HK1.out; have := HJ5.out; have := HK3.out; omega⟩, ⟨by (with_reducible repeat (first | refine blk_drewN ?_ _ | refine blk_drew ?_ | refine blk_alloc ?_ _)); refine blk_far ?_ NB122_131.out _; (with_reducible repeat (first | refine blk_drewN ?_ _ | refine blk_drew ?_ | refine blk_alloc ?_ _)); refine blk_far ?_ NB122_131.out _; (with_reducible repeat (first | refine blk_drewN ?_ _ | refine blk_drew ?_ | refine blk_alloc ?_ _)); refine blk_far ?_ NB122_131.out _; (with_reducible repeat (first | refine blk_drewN ?_ _ | refine blk_drew ?_ | refine blk_alloc ?_ _)); exact BK122.out⟩, ⟨by repeat (first | (with_reducible first | exact HB.out | apply below_alloc | apply pw_below_drewN | apply below_drew1 | refine below_set ?_ GE122.out | refine below_set ?_ GE131.out) | exact HB.out)⟩⟩
                                      · rw [if_neg c36] at H
                                        have c36b0 : (((rd_T59 y126 x54_3).f1) == ((rd_T59 l0 x14_1).f1)) = false := beq_eq_false_iff_ne.mpr c36
                                        have c36b1 : (((rd_T59 y126 x54_3).f1) != ((rd_T59 l0 x14_1).f1)) = true := bne_iff_ne.mpr c36
                                        have H' := Aside0.mk H
                                        clear H
                                        have p130 : 0 ≤ (x54_3 : Int) := of_decide_eq_true (by first | (with_reducible assumption) | assumption)
                                        have q130 : x54_3 < (y126.length : Int) := of_decide_eq_true (by first | (with_reducible assumption) | assumption)
                                        obtain ⟨ad130, e130, hx130_0, hx130_1, hx130_2⟩ := at_T59 HR129.out x54_3 p130 q130
                                        cases e130
                                        replace hx130_0 := (HB.out.cell (World.block_lt_of_cell? w _ hx130_0)).trans hx130_0
                                        replace hx130_1 := (HB.out.cell (World.block_lt_of_cell? w _ hx130_1)).trans hx130_1
                                        replace hx130_2 := (HB.out.cell (World.block_lt_of_cell? w _ hx130_2)).trans hx130_2
                                        replace p130 := eq_true p130
                                        replace q130 := eq_true q130
                                        go_wp2_with (first | ((with_reducible refine gate_dst (N := 8) rfl ?_); refine box_event ?hg (N := 8) ?hd (cs := #[.int .i64 0, .int .i64 0, .string (⟨#[]⟩ : ByteArray)]) (t := 59) ?hr ?_; (case hd => rfl); (case hg => rfl); (case hr => first | (go_simp; done) | (go_simp; rfl)); intro gb131 hg w41 hbox hb; have n0_ := Aside0.mk (blk_below (g := gb122) (o := .cells #[.int .i64 ((rd_T59 l0 x14_1).f0), .int .i64 ((rd_T59 l0 x14_1).f1), .string ((rd_T59 l0 x14_1).f2)] 59 (0, 0)) (by (with_reducible repeat (first | refine blk_drewN ?_ _ | refine blk_drew ?_ | refine blk_alloc ?_ _)); exact BK122.out) hb); have n1_ := Aside0.mk (below_step (by repeat (first | (with_reducible first | exact HB.out | apply below_alloc | apply pw_below_drewN | apply below_drew1 | refine below_set ?_ GE122.out) | exact HB.out)) hb); have n2_ := Aside0.mk (hbox); have n3_ := Aside0.mk ((by rw [hg]; exact (below_size (by repeat (first | (with_reducible first | exact HB.out | apply below_alloc | apply pw_below_drewN | apply below_drew1 | refine below_set ?_ GE122.out) | exact HB.out))) : w.heap.size ≤ gb131)); have n4_ := Aside0.mk ((by rw [hg]; exact (below_size (by repeat (first | (with_reducible first | exact HB.out | apply below_alloc | apply pw_below_drewN | apply below_drew1 | refine below_set ?_ GE122.out) | exact HB.out))) : w.heap.size ≤ gb131)); have n5_ := Aside0.mk ((by rw [hg]; exact Nat.ne_of_lt (blk_lt (g := gb122) (o := .cells #[.int .i64 ((rd_T59 l0 x14_1).f0), .int .i64 ((rd_T59 l0 x14_1).f1), .string ((rd_T59 l0 x14_1).f2)] 59 (0, 0)) (by (with_reducible repeat (first | refine blk_drewN ?_ _ | refine blk_drew ?_ | refine blk_alloc ?_ _)); exact BK122.out)) : gb122 ≠ gb131)); have n6_ := Aside0.mk ((by rw [hg]; exact Nat.ne_of_gt (blk_lt (g := gb122) (o := .cells #[.int .i64 ((rd_T59 l0 x14_1).f0), .int .i64 ((rd_T59 l0 x14_1).f1), .string ((rd_T59 l0 x14_1).f2)] 59 (0, 0)) (by (with_reducible repeat (first | refine blk_drewN ?_ _ | refine blk_drew ?_ | refine blk_alloc ?_ _)); exact BK122.out)) : gb131 ≠ gb122)); clear BK122; clear HB; have BK122 := n0_; have HB := n1_; have BK131 := n2_; have GW131 := n3_; have GE131 := n4_; have NB122_131 := n5_; have NB131_122 := n6_; clear n0_ n1_ n2_ n3_ n4_ n5_ n6_; clear hb hbox hg; have hnb42 := NB131_122.out; have hnc42 := NB122_131.out; have hcz43_0 : w41.cell? ⟨gb131, 0, none⟩ = some (.int .i64 0) := (blk_cell BK131.out 0).trans rfl; have hcz43_1 : w41.cell? ⟨gb131, 1, none⟩ = some (.int .i64 0) := (blk_cell BK131.out 1).trans rfl; have hcz43_2 : w41.cell? ⟨gb131, 2, none⟩ = some (.string (⟨#[]⟩ : ByteArray)) := (blk_cell BK131.out 2).trans rfl; have hfz43_0 := blk_frozen BK131.out 0; have hfz43_1 := blk_frozen BK131.out 1; have hfz43_2 := blk_frozen BK131.out 2; have hcz44_0 : w41.cell? ⟨gb122, 0, none⟩ = some (.int .i64 ((rd_T59 l0 x14_1).f0)) := (blk_cell BK122.out 0).trans rfl; have hcz44_1 : w41.cell? ⟨gb122, 1, none⟩ = some (.int .i64 ((rd_T59 l0 x14_1).f1)) := (blk_cell BK122.out 1).trans rfl; have hcz44_2 : w41.cell? ⟨gb122, 2, none⟩ = some (.string ((rd_T59 l0 x14_1).f2)) := (blk_cell BK122.out 2).trans rfl; have hfz44_0 := blk_frozen BK122.out 0; have hfz44_1 := blk_frozen BK122.out 1; have hfz44_2 := blk_frozen BK122.out 2))
                                        go_roundg k3
                                        case measure => have := HK1.out; have := HJ5.out; have := HK3.out; omega
                                        case rel => exact ⟨(true), (false), (wrap64 (x54_3 + 1)), (by first | rfl | (simp; done) | (simp [*]; done)), (by first | rfl | (simp; done) | (simp [*]; done)), (by first | rfl | (simp; done) | (simp [*]; done)), H', ⟨by have := HK1.out; have := HJ5.out; have := HK3.out; omega⟩, ⟨by (with_reducible repeat (first | refine blk_drewN ?_ _ | refine blk_drew ?_ | refine blk_alloc ?_ _)); refine blk_far ?_ NB122_131.out _; (with_reducible repeat (first | refine blk_drewN ?_ _ | refine blk_drew ?_ | refine blk_alloc ?_ _)); refine blk_far ?_ NB122_131.out _; (with_reducible repeat (first | refine blk_drewN ?_ _ | refine blk_drew ?_ | refine blk_alloc ?_ _)); refine blk_far ?_ NB122_131.out _; (with_reducible repeat (first | refine blk_drewN ?_ _ | refine blk_drew ?_ | refine blk_alloc ?_ _)); exact BK122.out⟩, ⟨by repeat (first | (with_reducible first | exact HB.out | apply below_alloc | apply pw_below_drewN | apply below_drew1 | refine below_set ?_ GE122.out | refine below_set ?_ GE131.out) | exact HB.out)⟩⟩
                                  · replace c31 := Bool.eq_false_iff.mpr c31
                                    subst c31
                                    have H1 : (if x6_3 = true then (spec_GoodOps.l1 k3 l0 (((rd_T59 y126 x54_3).f1) == ((rd_T59 l0 x14_1).f1)) true l0 (l0.length : Int) x14_1 y126 (y126.length : Int) (wrap64 (x54_3 + 1)) ((rd_T59 l0 x14_1).f0) ((rd_T59 l0 x14_1).f1) ((rd_T59 l0 x14_1).f2)) else (if ((rd_T59 y126 x54_3).f1) = ((rd_T59 l0 x14_1).f1) then (spec_GoodOps.l1 k3 l0 (((rd_T59 y126 x54_3).f1) == ((rd_T59 l0 x14_1).f1)) (((rd_T59 y126 x54_3).f0) == 3) l0 (l0.length : Int) x14_1 y126 (y126.length : Int) (wrap64 (x54_3 + 1)) ((rd_T59 l0 x14_1).f0) ((rd_T59 l0 x14_1).f1) ((rd_T59 l0 x14_1).f2)) else (spec_GoodOps.l1 k3 l0 (((rd_T59 y126 x54_3).f1) == ((rd_T59 l0 x14_1).f1)) false l0 (l0.length : Int) x14_1 y126 (y126.length : Int) (wrap64 (x54_3 + 1)) ((rd_T59 l0 x14_1).f0) ((rd_T59 l0 x14_1).f1) ((rd_T59 l0 x14_1).f2)))) = some r := by rw [if_neg (show ¬ (false = true) by decide)] at H; exact H
                                    clear H
                                    have H := H1
                                    clear H1
                                    by_cases c45 : x6_3 = true
                                    · subst c45
                                      have H1 : (spec_GoodOps.l1 k3 l0 (((rd_T59 y126 x54_3).f1) == ((rd_T59 l0 x14_1).f1)) true l0 (l0.length : Int) x14_1 y126 (y126.length : Int) (wrap64 (x54_3 + 1)) ((rd_T59 l0 x14_1).f0) ((rd_T59 l0 x14_1).f1) ((rd_T59 l0 x14_1).f2)) = some r := by rw [if_pos rfl] at H; exact H
                                      clear H
                                      have H := H1
                                      clear H1
                                      have H' := Aside0.mk H
                                      clear H
                                      have p130 : 0 ≤ (x54_3 : Int) := of_decide_eq_true (by first | (with_reducible assumption) | assumption)
                                      have q130 : x54_3 < (y126.length : Int) := of_decide_eq_true (by first | (with_reducible assumption) | assumption)
                                      obtain ⟨ad130, e130, hx130_0, hx130_1, hx130_2⟩ := at_T59 HR129.out x54_3 p130 q130
                                      cases e130
                                      replace hx130_0 := (HB.out.cell (World.block_lt_of_cell? w _ hx130_0)).trans hx130_0
                                      replace hx130_1 := (HB.out.cell (World.block_lt_of_cell? w _ hx130_1)).trans hx130_1
                                      replace hx130_2 := (HB.out.cell (World.block_lt_of_cell? w _ hx130_2)).trans hx130_2
                                      replace p130 := eq_true p130
                                      replace q130 := eq_true q130
                                      go_wp2_with (first | ((with_reducible refine gate_dst (N := 8) rfl ?_); refine box_event ?hg (N := 8) ?hd (cs := #[.int .i64 0, .int .i64 0, .string (⟨#[]⟩ : ByteArray)]) (t := 59) ?hr ?_; (case hd => rfl); (case hg => rfl); (case hr => first | (go_simp; done) | (go_simp; rfl)); intro gb131 hg w46 hbox hb; have n0_ := Aside0.mk (blk_below (g := gb122) (o := .cells #[.int .i64 ((rd_T59 l0 x14_1).f0), .int .i64 ((rd_T59 l0 x14_1).f1), .string ((rd_T59 l0 x14_1).f2)] 59 (0, 0)) (by (with_reducible repeat (first | refine blk_drewN ?_ _ | refine blk_drew ?_ | refine blk_alloc ?_ _)); exact BK122.out) hb); have n1_ := Aside0.mk (below_step (by repeat (first | (with_reducible first | exact HB.out | apply below_alloc | apply pw_below_drewN | apply below_drew1 | refine below_set ?_ GE122.out) | exact HB.out)) hb); have n2_ := Aside0.mk (hbox); have n3_ := Aside0.mk ((by rw [hg]; exact (below_size (by repeat (first | (with_reducible first | exact HB.out | apply below_alloc | apply pw_below_drewN | apply below_drew1 | refine below_set ?_ GE122.out) | exact HB.out))) : w.heap.size ≤ gb131)); have n4_ := Aside0.mk ((by rw [hg]; exact (below_size (by repeat (first | (with_reducible first | exact HB.out | apply below_alloc | apply pw_below_drewN | apply below_drew1 | refine below_set ?_ GE122.out) | exact HB.out))) : w.heap.size ≤ gb131)); have n5_ := Aside0.mk ((by rw [hg]; exact Nat.ne_of_lt (blk_lt (g := gb122) (o := .cells #[.int .i64 ((rd_T59 l0 x14_1).f0), .int .i64 ((rd_T59 l0 x14_1).f1), .string ((rd_T59 l0 x14_1).f2)] 59 (0, 0)) (by (with_reducible repeat (first | refine blk_drewN ?_ _ | refine blk_drew ?_ | refine blk_alloc ?_ _)); exact BK122.out)) : gb122 ≠ gb131)); have n6_ := Aside0.mk ((by rw [hg]; exact Nat.ne_of_gt (blk_lt (g := gb122) (o := .cells #[.int .i64 ((rd_T59 l0 x14_1).f0), .int .i64 ((rd_T59 l0 x14_1).f1), .string ((rd_T59 l0 x14_1).f2)] 59 (0, 0)) (by (with_reducible repeat (first | refine blk_drewN ?_ _ | refine blk_drew ?_ | refine blk_alloc ?_ _)); exact BK122.out)) : gb131 ≠ gb122)); clear BK122; clear HB; have BK122 := n0_; have HB := n1_; have BK131 := n2_; have GW131 := n3_; have GE131 := n4_; have NB122_131 := n5_; have NB131_122 := n6_; clear n0_ n1_ n2_ n3_ n4_ n5_ n6_; clear hb hbox hg; have hnb47 := NB131_122.out; have hnc47 := NB122_131.out; have hcz48_0 : w46.cell? ⟨gb131, 0, none⟩ = some (.int .i64 0) := (blk_cell BK131.out 0).trans rfl; have hcz48_1 : w46.cell? ⟨gb131, 1, none⟩ = some (.int .i64 0) := (blk_cell BK131.out 1).trans rfl; have hcz48_2 : w46.cell? ⟨gb131, 2, none⟩ = some (.string (⟨#[]⟩ : ByteArray)) := (blk_cell BK131.out 2).trans rfl; have hfz48_0 := blk_frozen BK131.out 0; have hfz48_1 := blk_frozen BK131.out 1; have hfz48_2 := blk_frozen BK131.out 2; have hcz49_0 : w46.cell? ⟨gb122, 0, none⟩ = some (.int .i64 ((rd_T59 l0 x14_1).f0)) := (blk_cell BK122.out 0).trans rfl; have hcz49_1 : w46.cell? ⟨gb122, 1, none⟩ = some (.int .i64 ((rd_T59 l0 x14_1).f1)) := (blk_cell BK122.out 1).trans rfl; have hcz49_2 : w46.cell? ⟨gb122, 2, none⟩ = some (.string ((rd_T59 l0 x14_1).f2)) := (blk_cell BK122.out 2).trans rfl; have hfz49_0 := blk_frozen BK122.out 0; have hfz49_1 := blk_frozen BK122.out 1; have hfz49_2 := blk_frozen BK122.out 2))
                                      go_roundg k3
                                      case measure => have := HK1.out; have := HJ5.out; have := HK3.out; omega
                                      case rel => exact ⟨((((rd_T59 y126 x54_3).f1) == ((rd_T59 l0 x14_1).f1))), (true), (wrap64 (x54_3 + 1)), (by first | rfl | (simp; done) | (simp [*]; done)), (by first | rfl | (simp; done) | (simp [*]; done)), (by first | rfl | (simp; done) | (simp [*]; done)), H', ⟨by have := HK1.out; have := HJ5.out; have := HK3.out; omega⟩, ⟨by (with_reducible repeat (first | refine blk_drewN ?_ _ | refine blk_drew ?_ | refine blk_alloc ?_ _)); refine blk_far ?_ NB122_131.out _; (with_reducible repeat (first | refine blk_drewN ?_ _ | refine blk_drew ?_ | refine blk_alloc ?_ _)); refine blk_far ?_ NB122_131.out _; (with_reducible repeat (first | refine blk_drewN ?_ _ | refine blk_drew ?_ | refine blk_alloc ?_ _)); refine blk_far ?_ NB122_131.out _; (with_reducible repeat (first | refine blk_drewN ?_ _ | refine blk_drew ?_ | refine blk_alloc ?_ _)); exact BK122.out⟩, ⟨by repeat (first | (with_reducible first | exact HB.out | apply below_alloc | apply pw_below_drewN | apply below_drew1 | refine below_set ?_ GE122.out | refine below_set ?_ GE131.out) | exact HB.out)⟩⟩
                                    · replace c45 := Bool.eq_false_iff.mpr c45
                                      subst c45
                                      have H1 : (if ((rd_T59 y126 x54_3).f1) = ((rd_T59 l0 x14_1).f1) then (spec_GoodOps.l1 k3 l0 (((rd_T59 y126 x54_3).f1) == ((rd_T59 l0 x14_1).f1)) (((rd_T59 y126 x54_3).f0) == 3) l0 (l0.length : Int) x14_1 y126 (y126.length : Int) (wrap64 (x54_3 + 1)) ((rd_T59 l0 x14_1).f0) ((rd_T59 l0 x14_1).f1) ((rd_T59 l0 x14_1).f2)) else (spec_GoodOps.l1 k3 l0 (((rd_T59 y126 x54_3).f1) == ((rd_T59 l0 x14_1).f1)) false l0 (l0.length : Int) x14_1 y126 (y126.length : Int) (wrap64 (x54_3 + 1)) ((rd_T59 l0 x14_1).f0) ((rd_T59 l0 x14_1).f1) ((rd_T59 l0 x14_1).f2))) = some r := by rw [if_neg (show ¬ (false = true) by decide)] at H; exact H
                                      clear H
                                      have H := H1
                                      clear H1
                                      by_cases c50 : ((rd_T59 y126 x54_3).f1) = ((rd_T59 l0 x14_1).f1)
                                      · rw [if_pos c50] at H
                                        have c50b0 : (((rd_T59 y126 x54_3).f1) == ((rd_T59 l0 x14_1).f1)) = true := beq_iff_eq.mpr c50
                                        have c50b1 : (((rd_T59 y126 x54_3).f1) != ((rd_T59 l0 x14_1).f1)) = false := bne_eq_false_iff_eq.mpr c50
                                        clear c50
                                        have H' := Aside0.mk H
                                        clear H
                                        have p130 : 0 ≤ (x54_3 : Int) := of_decide_eq_true (by first | (with_reducible assumption) | assumption)
                                        have q130 : x54_3 < (y126.length : Int) := of_decide_eq_true (by first | (with_reducible assumption) | assumption)
                                        obtain ⟨ad130, e130, hx130_0, hx130_1, hx130_2⟩ := at_T59 HR129.out x54_3 p130 q130
                                        cases e130
                                        replace hx130_0 := (HB.out.cell (World.block_lt_of_cell? w _ hx130_0)).trans hx130_0
                                        replace hx130_1 := (HB.out.cell (World.block_lt_of_cell? w _ hx130_1)).trans hx130_1
                                        replace hx130_2 := (HB.out.cell (World.block_lt_of_cell? w _ hx130_2)).trans hx130_2
                                        replace p130 := eq_true p130
                                        replace q130 := eq_true q130
                                        go_wp2_with (first | ((with_reducible refine gate_dst (N := 8) rfl ?_); refine box_event ?hg (N := 8) ?hd (cs := #[.int .i64 0, .int .i64 0, .string (⟨#[]⟩ : ByteArray)]) (t := 59) ?hr ?_; (case hd => rfl); (case hg => rfl); (case hr => first | (go_simp; done) | (go_simp; rfl)); intro gb131 hg w51 hbox hb; have n0_ := Aside0.mk (blk_below (g := gb122) (o := .cells #[.int .i64 ((rd_T59 l0 x14_1).f0), .int .i64 ((rd_T59 l0 x14_1).f1), .string ((rd_T59 l0 x14_1).f2)] 59 (0, 0)) (by (with_reducible repeat (first | refine blk_drewN ?_ _ | refine blk_drew ?_ | refine blk_alloc ?_ _)); exact BK122.out) hb); have n1_ := Aside0.mk (below_step (by repeat (first | (with_reducible first | exact HB.out | apply below_alloc | apply pw_below_drewN | apply below_drew1 | refine below_set ?_ GE122.out) | exact HB.out)) hb); have n2_ := Aside0.mk (hbox); have n3_ := Aside0.mk ((by rw [hg]; exact (below_size (by repeat (first | (with_reducible first | exact HB.out | apply below_alloc | apply pw_below_drewN | apply below_drew1 | refine below_set ?_ GE122.out) | exact HB.out))) : w.heap.size ≤ gb131)); have n4_ := Aside0.mk ((by rw [hg]; exact (below_size (by repeat (first | (with_reducible first | exact HB.out | apply below_alloc | apply pw_below_drewN | apply below_drew1 | refine below_set ?_ GE122.out) | exact HB.out))) : w.heap.size ≤ gb131)); have n5_ := Aside0.mk ((by rw [hg]; exact Nat.ne_of_lt (blk_lt (g := gb122) (o := .cells #[.int .i64 ((rd_T59 l0 x14_1).f0), .int .i64 ((rd_T59 l0 x14_1).f1), .string ((rd_T59 l0 x14_1).f2)] 59 (0, 0)) (by (with_reducible repeat (first | refine blk_drewN ?_ _ | refine blk_drew ?_ | refine blk_alloc ?_ _)); exact BK122.out)) : gb122 ≠ gb131)); have n6_ := Aside0.mk ((by rw [hg]; exact Nat.ne_of_gt (blk_lt (g := gb122) (o := .cells #[.int .i64 ((rd_T59 l0 x14_1).f0), .int .i64 ((rd_T59 l0 x14_1).f1), .string ((rd_T59 l0 x14_1).f2)] 59 (0, 0)) (by (with_reducible repeat (first | refine blk_drewN ?_ _ | refine blk_drew ?_ | refine blk_alloc ?_ _)); exact BK122.out)) : gb131 ≠ gb122)); clear BK122; clear HB; have BK122 := n0_; have HB := n1_; have BK131 := n2_; have GW131 := n3_; have GE131 := n4_; have NB122_131 := n5_; have NB131_122 := n6_; clear n0_ n1_ n2_ n3_ n4_ n5_ n6_; clear hb hbox hg; have hnb52 := NB131_122.out; have hnc52 := NB122_131.out; have hcz53_0 : w51.cell? ⟨gb131, 0, none⟩ = some (.int .i64 0) := (blk_cell BK131.out 0).trans rfl; have hcz53_1 : w51.cell? ⟨gb131, 1, none⟩ = some (.int .i64 0) := (blk_cell BK131.out 1).trans rfl; have hcz53_2 : w51.cell? ⟨gb131, 2, none⟩ = some (.string (⟨#[]⟩ : ByteArray)) := (blk_cell BK131.out 2).trans rfl; have hfz53_0 := blk_frozen BK131.out 0; have hfz53_1 := blk_frozen BK131.out 1; have hfz53_2 := blk_frozen BK131.out 2; have hcz54_0 : w51.cell? ⟨gb122, 0, none⟩ = some (.int .i64 ((rd_T59 l0 x14_1).f0)) := (blk_cell BK122.out 0).trans rfl; have hcz54_1 : w51.cell? ⟨gb122, 1, none⟩ = some (.int .i64 ((rd_T59 l0 x14_1).f1)) := (blk_cell BK122.out 1).trans rfl; have hcz54_2 : w51.cell? ⟨gb122, 2, none⟩ = some (.string ((rd_T59 l0 x14_1).f2)) := (blk_cell BK122.out 2).trans rfl; have hfz54_0 := blk_frozen BK122.out 0; have hfz54_1 := blk_frozen BK122.out 1; have hfz54_2 := blk_frozen BK122.out 2))
                                        go_roundg k3
                                        case measure => have := HK1.out; have := HJ5.out; have := HK3.out; omega
                                        case rel => exact ⟨((((rd_T59 y126 x54_3).f1) == ((rd_T59 l0 x14_1).f1))), ((((rd_T59 y126 x54_3).f0) == 3)), (wrap64 (x54_3 + 1)), (by first | rfl | (simp; done) | (simp [*]; done)), (by first | rfl | (simp; done) | (simp [*]; done)), (by first | rfl | (simp; done) | (simp [*]; done)), H', ⟨by have := HK1.out; have := HJ5.out; have := HK3.out; omega⟩, ⟨by (with_reducible repeat (first | refine blk_drewN ?_ _ | refine blk_drew ?_ | refine blk_alloc ?_ _)); refine blk_far ?_ NB122_131.out _; (with_reducible repeat (first | refine blk_drewN ?_ _ | refine blk_drew ?_ | refine blk_alloc ?_ _)); refine blk_far ?_ NB122_131.out _; (with_reducible repeat (first | refine blk_drewN ?_ _ | refine blk_drew ?_ | refine blk_alloc ?_ _)); refine blk_far ?_ NB122_131.out _; (with_reducible repeat (first | refine blk_drewN ?_ _ | refine blk_drew ?_ | refine blk_alloc ?_ _)); exact BK122.out⟩, ⟨by repeat (first | (with_reducible first | exact HB.out | apply below_alloc | apply pw_below_drewN | apply below_drew1 | refine below_set ?_ GE122.out | refine below_set ?_ GE131.out) | exact HB.out)⟩⟩
                                      · rw [if_neg c50] at H
                                        have c50b0 : (((rd_T59 y126 x54_3).f1) == ((rd_T59 l0 x14_1).f1)) = false := beq_eq_false_iff_ne.mpr c50
                                        have c50b1 : (((rd_T59 y126 x54_3).f1) != ((rd_T59 l0 x14_1).f1)) = true := bne_iff_ne.mpr c50
                                        have H' := Aside0.mk H
                                        clear H
                                        have p130 : 0 ≤ (x54_3 : Int) := of_decide_eq_true (by first | (with_reducible assumption) | assumption)
                                        have q130 : x54_3 < (y126.length : Int) := of_decide_eq_true (by first | (with_reducible assumption) | assumption)
                                        obtain ⟨ad130, e130, hx130_0, hx130_1, hx130_2⟩ := at_T59 HR129.out x54_3 p130 q130
                                        cases e130
                                        replace hx130_0 := (HB.out.cell (World.block_lt_of_cell? w _ hx130_0)).trans hx130_0
                                        replace hx130_1 := (HB.out.cell (World.block_lt_of_cell? w _ hx130_1)).trans hx130_1
                                        replace hx130_2 := (HB.out.cell (World.block_lt_of_cell? w _ hx130_2)).trans hx130_2
                                        replace p130 := eq_true p130
                                        replace q130 := eq_true q130
                                        go_wp2_with (first | ((with_reducible refine gate_dst (N := 8) rfl ?_); refine box_event ?hg (N := 8) ?hd (cs := #[.int .i64 0, .int .i64 0, .string (⟨#[]⟩ : ByteArray)]) (t := 59) ?hr ?_; (case hd => rfl); (case hg => rfl); (case hr => first | (go_simp; done) | (go_simp; rfl)); intro gb131 hg w55 hbox hb; have n0_ := Aside0.mk (blk_below (g := gb122) (o := .cells #[.int .i64 ((rd_T59 l0 x14_1).f0), .int .i64 ((rd_T59 l0 x14_1).f1), .string ((rd_T59 l0 x14_1).f2)] 59 (0, 0)) (by (with_reducible repeat (first | refine blk_drewN ?_ _ | refine blk_drew ?_ | refine blk_alloc ?_ _)); exact BK122.out) hb); have n1_ := Aside0.mk (below_step (by repeat (first | (with_reducible first | exact HB.out | apply below_alloc | apply pw_below_drewN | apply below_drew1 | refine below_set ?_ GE122.out) | exact HB.out)) hb); have n2_ := Aside0.mk (hbox); have n3_ := Aside0.mk ((by rw [hg]; exact (below_size (by repeat (first | (with_reducible first | exact HB.out | apply below_alloc | apply pw_below_drewN | apply below_drew1 | refine below_set ?_ GE122.out) | exact HB.out))) : w.heap.size ≤ gb131)); have n4_ := Aside0.mk ((by rw [hg]; exact (below_size (by repeat (first | (with_reducible first | exact HB.out | apply below_alloc | apply pw_below_drewN | apply below_drew1 | refine below_set ?_ GE122.out) | exact HB.out))) : w.heap.size ≤ gb131)); have n5_ := Aside0.mk ((by rw [hg]; exact Nat.ne_of_lt (blk_lt (g := gb122) (o := .cells #[.int .i64 ((rd_T59 l0 x14_1).f0), .int .i64 ((rd_T59 l0 x14_1).f1), .string ((rd_T59 l0 x14_1).f2)] 59 (0, 0)) (by (with_reducible repeat (first | refine blk_drewN ?_ _ | refine blk_drew ?_ | refine blk_alloc ?_ _)); exact BK122.out)) : gb122 ≠ gb131)); have n6_ := Aside0.mk ((by rw [hg]; exact Nat.ne_of_gt (blk_lt (g := gb122) (o := .cells #[.int .i64 ((rd_T59 l0 x14_1).f0), .int .i64 ((rd_T59 l0 x14_1).f1), .string ((rd_T59 l0 x14_1).f2)] 59 (0, 0)) (by (with_reducible repeat (first | refine blk_drewN ?_ _ | refine blk_drew ?_ | refine blk_alloc ?_ _)); exact BK122.out)) : gb131 ≠ gb122)); clear BK122; clear HB; have BK122 := n0_; have HB := n1_; have BK131 := n2_; have GW131 := n3_; have GE131 := n4_; have NB122_131 := n5_; have NB131_122 := n6_; clear n0_ n1_ n2_ n3_ n4_ n5_ n6_; clear hb hbox hg; have hnb56 := NB131_122.out; have hnc56 := NB122_131.out; have hcz57_0 : w55.cell? ⟨gb131, 0, none⟩ = some (.int .i64 0) := (blk_cell BK131.out 0).trans rfl; have hcz57_1 : w55.cell? ⟨gb131, 1, none⟩ = some (.int .i64 0) := (blk_cell BK131.out 1).trans rfl; have hcz57_2 : w55.cell? ⟨gb131, 2, none⟩ = some (.string (⟨#[]⟩ : ByteArray)) := (blk_cell BK131.out 2).trans rfl; have hfz57_0 := blk_frozen BK131.out 0; have hfz57_1 := blk_frozen BK131.out 1; have hfz57_2 := blk_frozen BK131.out 2; have hcz58_0 : w55.cell? ⟨gb122, 0, none⟩ = some (.int .i64 ((rd_T59 l0 x14_1).f0)) := (blk_cell BK122.out 0).trans rfl; have hcz58_1 : w55.cell? ⟨gb122, 1, none⟩ = some (.int .i64 ((rd_T59 l0 x14_1).f1)) := (blk_cell BK122.out 1).trans rfl; have hcz58_2 : w55.cell? ⟨gb122, 2, none⟩ = some (.string ((rd_T59 l0 x14_1).f2)) := (blk_cell BK122.out 2).trans rfl; have hfz58_0 := blk_frozen BK122.out 0; have hfz58_1 := blk_frozen BK122.out 1; have hfz58_2 := blk_frozen BK122.out 2))
                                        go_roundg k3
                                        case measure => have := HK1.out; have := HJ5.out; have := HK3.out; omega
                                        case rel => exact ⟨((((rd_T59 y126 x54_3).f1) == ((rd_T59 l0 x14_1).f1))), (false), (wrap64 (x54_3 + 1)), (by first | rfl | (simp; done) | (simp [*]; done)), (by first | rfl | (simp; done) | (simp [*]; done)), (by first | rfl | (simp; done) | (simp [*]; done)), H', ⟨by have := HK1.out; have := HJ5.out; have := HK3.out; omega⟩, ⟨by (with_reducible repeat (first | refine blk_drewN ?_ _ | refine blk_drew ?_ | refine blk_alloc ?_ _)); refine blk_far ?_ NB122_131.out _; (with_reducible repeat (first | refine blk_drewN ?_ _ | refine blk_drew ?_ | refine blk_alloc ?_ _)); refine blk_far ?_ NB122_131.out _; (with_reducible repeat (first | refine blk_drewN ?_ _ | refine blk_drew ?_ | refine blk_alloc ?_ _)); refine blk_far ?_ NB122_131.out _; (with_reducible repeat (first | refine blk_drewN ?_ _ | refine blk_drew ?_ | refine blk_alloc ?_ _)); exact BK122.out⟩, ⟨by repeat (first | (with_reducible first | exact HB.out | apply below_alloc | apply pw_below_drewN | apply below_drew1 | refine below_set ?_ GE122.out | refine below_set ?_ GE131.out) | exact HB.out)⟩⟩
                                · rw [if_neg c30] at H
                                  exact absurd H (by simp)
                              · rw [if_neg c29] at H
                                exact absurd H (by simp)
                            · rw [if_neg c28] at H
                              have c28b0 : decide (x54_3 < (y126.length : Int)) = false := decide_eq_false c28
                              clear c28
                              by_cases c59 : ((rd_T59 l0 x14_1).f0) = 3
                              · rw [if_pos c59] at H
                                have c59b0 : (((rd_T59 l0 x14_1).f0) == 3) = true := beq_iff_eq.mpr c59
                                have c59b1 : (((rd_T59 l0 x14_1).f0) != 3) = false := bne_eq_false_iff_eq.mpr c59
                                clear c59
                                by_cases c60 : x5_3 = true
                                · subst c60
                                  have H1 : (some false) = some r := by rw [if_pos rfl] at H; exact H
                                  clear H
                                  have H := H1
                                  clear H1
                                  obtain rfl := Option.some.inj H
                                  have hcz61_0 : wr.cell? ⟨gb122, 0, none⟩ = some (.int .i64 ((rd_T59 l0 x14_1).f0)) := (blk_cell BK122.out 0).trans rfl
                                  have hcz61_1 : wr.cell? ⟨gb122, 1, none⟩ = some (.int .i64 ((rd_T59 l0 x14_1).f1)) := (blk_cell BK122.out 1).trans rfl
                                  have hcz61_2 : wr.cell? ⟨gb122, 2, none⟩ = some (.string ((rd_T59 l0 x14_1).f2)) := (blk_cell BK122.out 2).trans rfl
                                  have hfz61_0 := blk_frozen BK122.out 0
                                  have hfz61_1 := blk_frozen BK122.out 1
                                  have hfz61_2 := blk_frozen BK122.out 2
                                  go_wp2
                                  go_ret
                                  exact ⟨by first | rfl | (simp [errW_none, errW_some] <;> rfl) | (simp only [← hji24]; first | rfl | (simp [errW_none, errW_some] <;> rfl)) | (simp [*, errW_none, errW_some] <;> rfl), by repeat (first | (with_reducible first | exact HB.out | apply below_alloc | apply pw_below_drewN | apply below_drew1 | refine below_set ?_ GE122.out) | exact HB.out)⟩
                                · replace c60 := Bool.eq_false_iff.mpr c60
                                  subst c60
                                  have H1 : (spec_GoodOps.l0 k3 l0 l0 (l0.length : Int) (wrap64 (x14_1 + 1))) = some r := by rw [if_neg (show ¬ (false = true) by decide)] at H; exact H
                                  clear H
                                  have H := H1
                                  clear H1
                                  have H' := Aside0.mk H
                                  clear H
                                  have hcz62_0 : wr.cell? ⟨gb122, 0, none⟩ = some (.int .i64 ((rd_T59 l0 x14_1).f0)) := (blk_cell BK122.out 0).trans rfl
                                  have hcz62_1 : wr.cell? ⟨gb122, 1, none⟩ = some (.int .i64 ((rd_T59 l0 x14_1).f1)) := (blk_cell BK122.out 1).trans rfl
                                  have hcz62_2 : wr.cell? ⟨gb122, 2, none⟩ = some (.string ((rd_T59 l0 x14_1).f2)) := (blk_cell BK122.out 2).trans rfl
                                  have hfz62_0 := blk_frozen BK122.out 0
                                  have hfz62_1 := blk_frozen BK122.out 1
                                  have hfz62_2 := blk_frozen BK122.out 2
                                  go_wp2
                                  go_roundg k3
                                  case measure => have := HK1.out; have := HJ5.out; have := HK3.out; omega
                                  case rel => exact ⟨(wrap64 (x14_1 + 1)), (by first | rfl | (simp; done) | (simp [*]; done)), H', ⟨by have := HK1.out; have := HJ5.out; have := HK3.out; omega⟩, ⟨by repeat (first | (with_reducible first | exact HB.out | apply below_alloc | apply pw_below_drewN | apply below_drew1 | refine below_set ?_ GE122.out) | exact HB.out)⟩⟩
                              · rw [if_neg c59] at H
                                have c59b0 : (((rd_T59 l0 x14_1).f0) == 3) = false := beq_eq_false_iff_ne.mpr c59
                                have c59b1 : (((rd_T59 l0 x14_1).f0) != 3) = true := bne_iff_ne.mpr c59
                                by_cases c63 : x6_3 = true
                                · subst c63
                                  have H1 : (spec_GoodOps.l0 k3 l0 l0 (l0.length : Int) (wrap64 (x14_1 + 1))) = some r := by rw [if_pos rfl] at H; exact H
                                  clear H
                                  have H := H1
                                  clear H1
                                  have H' := Aside0.mk H
                                  clear H
                                  have hcz64_0 : wr.cell? ⟨gb122, 0, none⟩ = some (.int .i64 ((rd_T59 l0 x14_1).f0)) := (blk_cell BK122.out 0).trans rfl
                                  have hcz64_1 : wr.cell? ⟨gb122, 1, none⟩ = some (.int .i64 ((rd_T59 l0 x14_1).f1)) := (blk_cell BK122.out 1).trans rfl
                                  have hcz64_2 : wr.cell? ⟨gb122, 2, none⟩ = some (.string ((rd_T59 l0 x14_1).f2)) := (blk_cell BK122.out 2).trans rfl
                                  have hfz64_0 := blk_frozen BK122.out 0
                                  have hfz64_1 := blk_frozen BK122.out 1
                                  have hfz64_2 := blk_frozen BK122.out 2
                                  go_wp2
                                  go_roundg k3
                                  case measure => have := HK1.out; have := HJ5.out; have := HK3.out; omega
                                  case rel => exact ⟨(wrap64 (x14_1 + 1)), (by first | rfl | (simp; done) | (simp [*]; done)), H', ⟨by have := HK1.out; have := HJ5.out; have := HK3.out; omega⟩, ⟨by repeat (first | (with_reducible first | exact HB.out | apply below_alloc | apply pw_below_drewN | apply below_drew1 | refine below_set ?_ GE122.out) | exact HB.out)⟩⟩
                                · replace c63 := Bool.eq_false_iff.mpr c63
                                  subst c63
                                  have H1 : (some false) = some r := by rw [if_neg (show ¬ (false = true) by decide)] at H; exact H
                                  clear H
                                  have H := H1
                                  clear H1
                                  obtain rfl := Option.some.inj H
                                  have hcz65_0 : wr.cell? ⟨gb122, 0, none⟩ = some (.int .i64 ((rd_T59 l0 x14_1).f0)) := (blk_cell BK122.out 0).trans rfl
                                  have hcz65_1 : wr.cell? ⟨gb122, 1, none⟩ = some (.int .i64 ((rd_T59 l0 x14_1).f1)) := (blk_cell BK122.out 1).trans rfl
                                  have hcz65_2 : wr.cell? ⟨gb122, 2, none⟩ = some (.string ((rd_T59 l0 x14_1).f2)) := (blk_cell BK122.out 2).trans rfl
                                  have hfz65_0 := blk_frozen BK122.out 0
                                  have hfz65_1 := blk_frozen BK122.out 1
                                  have hfz65_2 := blk_frozen BK122.out 2
                                  go_wp2
                                  go_ret
                                  exact ⟨by first | rfl | (simp [errW_none, errW_some] <;> rfl) | (simp only [← hji24]; first | rfl | (simp [errW_none, errW_some] <;> rfl)) | (simp [*, errW_none, errW_some] <;> rfl), by repeat (first | (with_reducible first | exact HB.out | apply below_alloc | apply pw_below_drewN | apply below_drew1 | refine below_set ?_ GE122.out) | exact HB.out)⟩
                      · rw [if_neg c26] at H
                        exact absurd H (by simp)
                    · rw [if_neg c25] at H
                      exact absurd H (by simp)
            · rw [if_neg c5] at H
              exact absurd H (by simp)
          · rw [if_neg c4] at H
            exact absurd H (by simp)
        · rw [if_neg c3] at H
          have c3b0 : decide (x14_1 < (l0.length : Int)) = false := decide_eq_false c3
          clear c3
          obtain rfl := Option.some.inj H
          go_wp2
          go_ret
          exact ⟨by first | rfl | (simp [errW_none, errW_some] <;> rfl) | (simp [*, errW_none, errW_some] <;> rfl), by repeat (first | (with_reducible first | exact HB.out | apply below_alloc | apply pw_below_drewN | apply below_drew1) | exact HB.out)⟩

end Go.Proofs.YtobkiheihjdanaaDoor.PFnExactReadsFrom
