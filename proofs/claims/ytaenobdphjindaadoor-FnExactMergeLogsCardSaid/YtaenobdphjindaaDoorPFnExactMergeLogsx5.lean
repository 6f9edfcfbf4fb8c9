-- Written by a program of this session (wip/mk.py) over the kit's print. Not trusted: Lean checks it.
import Derived.Test.YtaenobdphjindaaDoorPFnExactMergeLogsx0
import Derived.Test.YtaenobdphjindaaDoorPFnExactMergeLogsx1
import Derived.Test.YtaenobdphjindaaDoorPFnExactMergeLogsx4
namespace Go.Proofs.YtaenobdphjindaaDoor.PFnExactMergeLogs
open Go.RowKit Go.Proofs.YtaenobdphjindaaDoorW.PrintWords Go.Proofs.YtaenobdphjindaaDoorW.PrintLast Go.Proofs.YtaenobdphjindaaDoorW.PrintMore
attribute [local go_sem] max2_int min2_int max_two min_two max_three min_three max_four min_four   -- for this text's walks alone
open Go.Proofs.YtaenobdphjindaaDoor.MapW
set_option linter.unusedVariables false
set_option linter.unusedSimpArgs false

attribute [local go_sem high] eqA51
/-! ### spec_MergeLogs: function 15 -/
mutual
def spec_MergeLogs.j0 : Nat → List (S53) → List (S53) → Bool → Option ((List (S53)) × Bool)
  | 0, _, _, _ => none
  | k + 1, x0, x1, x19 => if x19 = true then (some (([] : List (S53)), false)) else ((some (([] : List (S53)) : List (S53))).bind fun y152 => (if y152.length + x0.length < 2199023255552 then (spec_MergeLogs.l0 k x0 (y152 ++ x0) x1 (x1.length : Int) 0) else (none)))
def spec_MergeLogs.l0 : Nat → List (S53) → List (S53) → List (S53) → Int → Int → Option ((List (S53)) × Bool)
  | 0, _, _, _, _, _ => none
  | k + 1, x0, x6, x23, x24, x25 => if x25 < x24 then (if 0 ≤ x25 then (if x25 < (x23.length : Int) then (spec_MergeLogs.l1 k x0 x6 false x23 x24 x25 x0 (x0.length : Int) 0 ((rd_T53 x23 x25).f0) ((rd_T53 x23 x25).f1) ((rd_T53 x23 x25).f2) ((rd_T53 x23 x25).f3.f0) ((rd_T53 x23 x25).f3.f1) ((rd_T53 x23 x25).f3.f2)) else (none)) else (none)) else ((spec_GoodLog.f k x6).bind fun t158 => (if t158 = true then (some (x6, true)) else (some (([] : List (S53)), false))))
def spec_MergeLogs.l1 : Nat → List (S53) → List (S53) → Bool → List (S53) → Int → Int → List (S53) → Int → Int → Int → ByteArray → ByteArray → Int → Int → Bool → Option ((List (S53)) × Bool)
  | 0, _, _, _, _, _, _, _, _, _, _, _, _, _, _, _ => none
  | k + 1, x0, x6, x9, x23, x24, x25, x29, x30, x31, x161000, x161001, x161002, x161003, x161004, x161005 => if x31 < x30 then (if 0 ≤ x31 then (if x31 < (x29.length : Int) then (if ((rd_T53 x29 x31).f1).toList = x161001.toList then (spec_MergeLogs.j3 k x0 x6 x9 x23 x24 x25 x29 x30 x31 (((rd_T53 x29 x31).f3.f0) == x161003 && (((rd_T53 x29 x31).f3.f1) == x161004 && (((rd_T53 x29 x31).f3.f2) == x161005))) x161000 x161001 x161002 x161003 x161004 x161005 ((rd_T53 x29 x31).f0) ((rd_T53 x29 x31).f1) ((rd_T53 x29 x31).f2) ((rd_T53 x29 x31).f3.f0) ((rd_T53 x29 x31).f3.f1) ((rd_T53 x29 x31).f3.f2)) else (spec_MergeLogs.j3 k x0 x6 x9 x23 x24 x25 x29 x30 x31 false x161000 x161001 x161002 x161003 x161004 x161005 ((rd_T53 x29 x31).f0) ((rd_T53 x29 x31).f1) ((rd_T53 x29 x31).f2) ((rd_T53 x29 x31).f3.f0) ((rd_T53 x29 x31).f3.f1) ((rd_T53 x29 x31).f3.f2))) else (none)) else (none)) else (if x9 = true then (spec_MergeLogs.l0 k x0 x6 x23 x24 (wrap64 (x25 + 1))) else (if x6.length < 2199023255552 then (spec_MergeLogs.l0 k x0 (x6 ++ [(⟨x161000, x161001, x161002, (⟨x161003, x161004, x161005⟩ : S51)⟩ : S53)]) x23 x24 (wrap64 (x25 + 1))) else (none)))
def spec_MergeLogs.j3 : Nat → List (S53) → List (S53) → Bool → List (S53) → Int → Int → List (S53) → Int → Int → Bool → Int → ByteArray → ByteArray → Int → Int → Bool → Int → ByteArray → ByteArray → Int → Int → Bool → Option ((List (S53)) × Bool)
  | 0, _, _, _, _, _, _, _, _, _, _, _, _, _, _, _, _, _, _, _, _, _, _ => none
  | k + 1, x0, x6, x9, x23, x24, x25, x29, x30, x31, x46, x161000, x161001, x161002, x161003, x161004, x161005, x166000, x166001, x166002, x166003, x166004, x166005 => if x46 = true then (if x166002.toList = x161002.toList then (spec_MergeLogs.l1 k x0 x6 true x23 x24 x25 x29 x30 (wrap64 (x31 + 1)) x161000 x161001 x161002 x161003 x161004 x161005) else (some (([] : List (S53)), false))) else (spec_MergeLogs.l1 k x0 x6 x9 x23 x24 x25 x29 x30 (wrap64 (x31 + 1)) x161000 x161001 x161002 x161003 x161004 x161005)
end
def spec_MergeLogs.f (k : Nat) (l0 : List (S53)) (l1 : List (S53)) : Option ((List (S53)) × Bool) := (spec_GoodLog.f k l0).bind fun t150 => (if t150 = true then ((spec_GoodLog.f k l1).bind fun t151 => (spec_MergeLogs.j0 k l0 l1 (!t151))) else (spec_MergeLogs.j0 k l0 l1 true))
theorem spec_MergeLogs.mono_l : ∀ k, (∀ y0 y1 y2, LeO (spec_MergeLogs.j0 k y0 y1 y2) (spec_MergeLogs.j0 (k + 1) y0 y1 y2)) ∧ (∀ y0 y1 y2 y3 y4, LeO (spec_MergeLogs.l0 k y0 y1 y2 y3 y4) (spec_MergeLogs.l0 (k + 1) y0 y1 y2 y3 y4)) ∧ (∀ y0 y1 y2 y3 y4 y5 y6 y7 y8 y9 y10 y11 y12 y13 y14, LeO (spec_MergeLogs.l1 k y0 y1 y2 y3 y4 y5 y6 y7 y8 y9 y10 y11 y12 y13 y14) (spec_MergeLogs.l1 (k + 1) y0 y1 y2 y3 y4 y5 y6 y7 y8 y9 y10 y11 y12 y13 y14)) ∧ (∀ y0 y1 y2 y3 y4 y5 y6 y7 y8 y9 y10 y11 y12 y13 y14 y15 y16 y17 y18 y19 y20 y21, LeO (spec_MergeLogs.j3 k y0 y1 y2 y3 y4 y5 y6 y7 y8 y9 y10 y11 y12 y13 y14 y15 y16 y17 y18 y19 y20 y21) (spec_MergeLogs.j3 (k + 1) y0 y1 y2 y3 y4 y5 y6 y7 y8 y9 y10 y11 y12 y13 y14 y15 y16 y17 y18 y19 y20 y21))
  | 0 => ⟨fun _ _ _ r h => by simp [spec_MergeLogs.j0] at h, fun _ _ _ _ _ r h => by simp [spec_MergeLogs.l0] at h, fun _ _ _ _ _ _ _ _ _ _ _ _ _ _ _ r h => by simp [spec_MergeLogs.l1] at h, fun _ _ _ _ _ _ _ _ _ _ _ _ _ _ _ _ _ _ _ _ _ _ r h => by simp [spec_MergeLogs.j3] at h⟩
  | k + 1 => by
    obtain ⟨ih0, ih1, ih2, ih3⟩ := spec_MergeLogs.mono_l k
    refine ⟨?_, ?_, ?_, ?_⟩
    · intro y0 y1 y2
      unfold spec_MergeLogs.j0
      repeat' first
      | (with_reducible exact ih0 _ _ _)
      | (with_reducible exact ih1 _ _ _ _ _)
      | (with_reducible exact ih2 _ _ _ _ _ _ _ _ _ _ _ _ _ _ _)
      | (with_reducible exact ih3 _ _ _ _ _ _ _ _ _ _ _ _ _ _ _ _ _ _ _ _ _ _)
      | (with_reducible exact spec_GoodLog.mono _ _)
      | (with_reducible exact LeO.refl _)
      | (with_reducible exact LeO.none _)
      | (with_reducible refine LeO.ite ?_ ?_)
      | (with_reducible refine LeO.bind ?_ (fun _ => ?_))
      | exact ih0 _ _ _
      | exact ih1 _ _ _ _ _
      | exact ih2 _ _ _ _ _ _ _ _ _ _ _ _ _ _ _
      | exact ih3 _ _ _ _ _ _ _ _ _ _ _ _ _ _ _ _ _ _ _ _ _ _
      | exact spec_GoodLog.mono _ _
      | exact LeO.none _
      | refine LeO.ite ?_ ?_
      | refine LeO.bind ?_ (fun _ => ?_)
    · intro y0 y1 y2 y3 y4
      unfold spec_MergeLogs.l0
      repeat' first
      | (with_reducible exact ih0 _ _ _)
      | (with_reducible exact ih1 _ _ _ _ _)
      | (with_reducible exact ih2 _ _ _ _ _ _ _ _ _ _ _ _ _ _ _)
      | (with_reducible exact ih3 _ _ _ _ _ _ _ _ _ _ _ _ _ _ _ _ _ _ _ _ _ _)
      | (with_reducible exact spec_GoodLog.mono _ _)
      | (with_reducible exact LeO.refl _)
      | (with_reducible exact LeO.none _)
      | (with_reducible refine LeO.ite ?_ ?_)
      | (with_reducible refine LeO.bind ?_ (fun _ => ?_))
      | exact ih0 _ _ _
      | exact ih1 _ _ _ _ _
      | exact ih2 _ _ _ _ _ _ _ _ _ _ _ _ _ _ _
      | exact ih3 _ _ _ _ _ _ _ _ _ _ _ _ _ _ _ _ _ _ _ _ _ _
      | exact spec_GoodLog.mono _ _
      | exact LeO.none _
      | refine LeO.ite ?_ ?_
      | refine LeO.bind ?_ (fun _ => ?_)
    · intro y0 y1 y2 y3 y4 y5 y6 y7 y8 y9 y10 y11 y12 y13 y14
      unfold spec_MergeLogs.l1
      repeat' first
      | (with_reducible exact ih0 _ _ _)
      | (with_reducible exact ih1 _ _ _ _ _)
      | (with_reducible exact ih2 _ _ _ _ _ _ _ _ _ _ _ _ _ _ _)
      | (with_reducible exact ih3 _ _ _ _ _ _ _ _ _ _ _ _ _ _ _ _ _ _ _ _ _ _)
      | (with_reducible exact spec_GoodLog.mono _ _)
      | (with_reducible exact LeO.refl _)
      | (with_reducible exact LeO.none _)
      | (with_reducible refine LeO.ite ?_ ?_)
      | (with_reducible refine LeO.bind ?_ (fun _ => ?_))
      | exact ih0 _ _ _
      | exact ih1 _ _ _ _ _
      | exact ih2 _ _ _ _ _ _ _ _ _ _ _ _ _ _ _
      | exact ih3 _ _ _ _ _ _ _ _ _ _ _ _ _ _ _ _ _ _ _ _ _ _
      | exact spec_GoodLog.mono _ _
      | exact LeO.none _
      | refine LeO.ite ?_ ?_
      | refine LeO.bind ?_ (fun _ => ?_)
    · intro y0 y1 y2 y3 y4 y5 y6 y7 y8 y9 y10 y11 y12 y13 y14 y15 y16 y17 y18 y19 y20 y21
      unfold spec_MergeLogs.j3
      repeat' first
      | (with_reducible exact ih0 _ _ _)
      | (with_reducible exact ih1 _ _ _ _ _)
      | (with_reducible exact ih2 _ _ _ _ _ _ _ _ _ _ _ _ _ _ _)
      | (with_reducible exact ih3 _ _ _ _ _ _ _ _ _ _ _ _ _ _ _ _ _ _ _ _ _ _)
      | (with_reducible exact spec_GoodLog.mono _ _)
      | (with_reducible exact LeO.refl _)
      | (with_reducible exact LeO.none _)
      | (with_reducible refine LeO.ite ?_ ?_)
      | (with_reducible refine LeO.bind ?_ (fun _ => ?_))
      | exact ih0 _ _ _
      | exact ih1 _ _ _ _ _
      | exact ih2 _ _ _ _ _ _ _ _ _ _ _ _ _ _ _
      | exact ih3 _ _ _ _ _ _ _ _ _ _ _ _ _ _ _ _ _ _ _ _ _ _
      | exact spec_GoodLog.mono _ _
      | exact LeO.none _
      | refine LeO.ite ?_ ?_
      | refine LeO.bind ?_ (fun _ => ?_)
theorem spec_MergeLogs.mono : ∀ a0 a1 k, LeO (spec_MergeLogs.f k a0 a1) (spec_MergeLogs.f (k + 1) a0 a1) := by
  intro a0 a1 k
  obtain ⟨ih0, ih1, ih2, ih3⟩ := spec_MergeLogs.mono_l k
  unfold spec_MergeLogs.f
  repeat' first
      | (with_reducible exact ih0 _ _ _)
      | (with_reducible exact ih1 _ _ _ _ _)
      | (with_reducible exact ih2 _ _ _ _ _ _ _ _ _ _ _ _ _ _ _)
      | (with_reducible exact ih3 _ _ _ _ _ _ _ _ _ _ _ _ _ _ _ _ _ _ _ _ _ _)
      | (with_reducible exact spec_GoodLog.mono _ _)
      | (with_reducible exact LeO.refl _)
      | (with_reducible exact LeO.none _)
      | (with_reducible refine LeO.ite ?_ ?_)
      | (with_reducible refine LeO.bind ?_ (fun _ => ?_))
      | exact ih0 _ _ _
      | exact ih1 _ _ _ _ _
      | exact ih2 _ _ _ _ _ _ _ _ _ _ _ _ _ _ _
      | exact ih3 _ _ _ _ _ _ _ _ _ _ _ _ _ _ _ _ _ _ _ _ _ _
      | exact spec_GoodLog.mono _ _
      | exact LeO.none _
      | refine LeO.ite ?_ ?_
      | refine LeO.bind ?_ (fun _ => ?_)
set_option maxHeartbeats 8000000 in
set_option maxRecDepth 100000 in
theorem spec_MergeLogs.calls (k : Nat) (A0 : Option Addr) (c0 : Nat) (l0 : List (S53)) (A1 : Option Addr) (c1 : Nat) (l1 : List (S53)) (r1 : List (S53)) (r2 : Bool) (w : World) (hr0 : Kd.C k53 w A0 l0.length l0) (hc0 : l0.length ≤ c0) (hr1 : Kd.C k53 w A1 l1.length l1) (hc1 : l1.length ≤ c1) (h : spec_MergeLogs.f k l0 l1 = some (r1, r2)) :
    Calls Tryd.prog 15 #[.slice A0 l0.length c0, .slice A1 l1.length c1] w fun e w' => ∃ v0_ : Value, e = .returned (.tuple #[v0_, .bool r2]) ∧ Kd.R k53 53 w' w.heap.size (fun _ => True) v0_ r1 ∧ Below w.heap.size w w' := by
  have hu53 := Tryd.underlying53
  have hu51 := Tryd.underlying51
  have HR0 := Aside0.mk hr0
  have HC0 := Aside0.mk hc0
  clear hr0 hc0
  have HR1 := Aside0.mk hr1
  have HC1 := Aside0.mk hc1
  clear hr1 hc1
  have HB := Aside0.mk (Below.refl w.heap.size w)
  have H : ((spec_GoodLog.f k l0).bind fun t150 => (if t150 = true then ((spec_GoodLog.f k l1).bind fun t151 => (spec_MergeLogs.j0 k l0 l1 (!t151))) else (spec_MergeLogs.j0 k l0 l1 true))) = some (r1, r2) := h
  clear h
  have HC3 := Aside0.mk H
  clear H
  go_enter Tryd.func15, Tryd.ntmps15
  go_upto_region 1 with (fail)
  go_cut [19] (fun v19 wc => ∃ (kq : Nat) (x19_2 : Bool), v19 = .bool x19_2 ∧ Aside0 (spec_MergeLogs.j0 kq l0 l1 x19_2 = some (r1, r2)) ∧ Aside0 (kq ≤ k) ∧ Aside0 (Below w.heap.size w wc))
  case first =>
    have H := HC3.out
    clear HC3
    replace H := Option.bind_eq_some_iff.mp H
    obtain ⟨t150, A40, H⟩ := H
    replace H : (if t150 = true then ((spec_GoodLog.f k l1).bind fun t151 => (spec_MergeLogs.j0 k l0 l1 (!t151))) else (spec_MergeLogs.j0 k l0 l1 true)) = some (r1, r2) := H
    have A4 := Aside0.mk A40
    clear A40
    by_cases c5 : t150 = true
    · subst c5
      have H1 : ((spec_GoodLog.f k l1).bind fun t151 => (spec_MergeLogs.j0 k l0 l1 (!t151))) = some (r1, r2) := by rw [if_pos rfl] at H; exact H
      clear H
      have H := H1
      clear H1
      replace H := Option.bind_eq_some_iff.mp H
      obtain ⟨t151, A60, H⟩ := H
      replace H : (spec_MergeLogs.j0 k l0 l1 (!t151)) = some (r1, r2) := H
      have A6 := Aside0.mk A60
      clear A60
      have H' := Aside0.mk H
      clear H
      go_wp2_with (first | ((with_reducible refine gate_callee (f := 11) rfl ?_); refine goesL_ (some 13) rfl rfl Tryd.func11 (by kernel_rfl) rfl #[.slice A0 l0.length c0] rfl (by (try simp only [List.map_toArray, List.map_cons, List.map_nil]); first | done | rfl | (simp only [List.length_drop, List.length_take]; rfl)) ?_; (with_reducible refine (spec_GoodLog.calls k _ _ l0 true _ ?side1 ?side2 A4.out).mono ?_); (case side1 => repeat (first | exact (Kd.C_below HR0.out HB.out) | (with_reducible refine Kd.C_alloc ?_ _) | (with_reducible refine Kd.C_drewN ?_ _) | (with_reducible refine Kd.C_drew ?_))); (case side2 => exact HC0.out); rintro e w7 ⟨rfl, hb⟩; refine ⟨_, rfl, ?_⟩; have n0_ := Aside0.mk (below_step (by repeat (first | (with_reducible first | exact HB.out | apply below_alloc | apply pw_below_drewN | apply below_drew1) | exact HB.out)) hb); clear HB; have HB := n0_; clear n0_; (try clear hb); (try clear hb2); (try clear hk); (try clear hi)) | (go_at_call 11; (with_reducible refine (spec_GoodLog.calls k _ _ l1 t151 _ ?side1 ?side2 A6.out).mono ?_); (case side1 => repeat (first | exact (Kd.C_below HR1.out HB.out) | (with_reducible refine Kd.C_alloc ?_ _) | (with_reducible refine Kd.C_drewN ?_ _) | (with_reducible refine Kd.C_drew ?_))); (case side2 => exact HC1.out); rintro e w8 ⟨rfl, hb⟩; have n0_ := Aside0.mk (below_step (by repeat (first | (with_reducible first | exact HB.out | apply below_alloc | apply pw_below_drewN | apply below_drew1) | exact HB.out)) hb); clear HB; have HB := n0_; clear n0_; (try clear hb); (try clear hb2); (try clear hk); (try clear hi)))
      go_meet
      case rel => exact ⟨_, (!t151), (by first | rfl | (simp; done) | (simp [*]; done)), H', ⟨by first | omega | exact Nat.le_refl _⟩, ⟨by repeat (first | (with_reducible first | exact HB.out | apply below_alloc | apply pw_below_drewN | apply below_drew1) | exact HB.out)⟩⟩
    · replace c5 := Bool.eq_false_iff.mpr c5
      subst c5
      have H1 : (spec_MergeLogs.j0 k l0 l1 true) = some (r1, r2) := by rw [if_neg (show ¬ (false = true) by decide)] at H; exact H
      clear H
      have H := H1
      clear H1
      have H' := Aside0.mk H
      clear H
      go_wp2_with (first | ((with_reducible refine gate_callee (f := 11) rfl ?_); refine goesL_ (some 13) rfl rfl Tryd.func11 (by kernel_rfl) rfl #[.slice A0 l0.length c0] rfl (by (try simp only [List.map_toArray, List.map_cons, List.map_nil]); first | done | rfl | (simp only [List.length_drop, List.length_take]; rfl)) ?_; (with_reducible refine (spec_GoodLog.calls k _ _ l0 false _ ?side1 ?side2 A4.out).mono ?_); (case side1 => repeat (first | exact (Kd.C_below HR0.out HB.out) | (with_reducible refine Kd.C_alloc ?_ _) | (with_reducible refine Kd.C_drewN ?_ _) | (with_reducible refine Kd.C_drew ?_))); (case side2 => exact HC0.out); rintro e w9 ⟨rfl, hb⟩; refine ⟨_, rfl, ?_⟩; have n0_ := Aside0.mk (below_step (by repeat (first | (with_reducible first | exact HB.out | apply below_alloc | apply pw_below_drewN | apply below_drew1) | exact HB.out)) hb); clear HB; have HB := n0_; clear n0_; (try clear hb); (try clear hb2); (try clear hk); (try clear hi)))
      go_meet
      case rel => exact ⟨_, (true), (by first | rfl | (simp; done) | (simp [*]; done)), H', ⟨by first | omega | exact Nat.le_refl _⟩, ⟨by repeat (first | (with_reducible first | exact HB.out | apply below_alloc | apply pw_below_drewN | apply below_drew1) | exact HB.out)⟩⟩
  case rest =>
    clear HC3
    try clear c1
    try clear p2
    try clear c5
    obtain ⟨kq, x19_2, rfl, HA, HJ2, HB⟩ := hcut
    cases kq with
    | zero => exact absurd HA.out (by simp [spec_MergeLogs.j0])
    | succ kj2 =>
      have H := HA.out
      clear HA
      simp only [spec_MergeLogs.j0] at H
      by_cases c10 : x19_2 = true
      · subst c10
        have H1 : (some (([] : List (S53)), false)) = some (r1, r2) := by rw [if_pos rfl] at H; exact H
        clear H
        have H := H1
        clear H1
        simp only [Option.some.injEq, Prod.mk.injEq] at H
        obtain ⟨rfl, rfl⟩ := H
        go_wp2
        go_ret2
        exact ⟨_, by first | rfl | (simp [errW_none, errW_some] <;> rfl) | (simp [*, errW_none, errW_some] <;> rfl), by first | exact Kd.R_nil _ _ _ _ _ | exact Kd.N_nil _ _ _ _ _ | exact Kd.V_nil _ _ _ _ _ | exact Kd.Q_nil _ _ _ _ _ | exact Kd.S_nil _ _ _ _ _, by repeat (first | (with_reducible first | exact HB.out | apply below_alloc | apply pw_below_drewN | apply below_drew1) | exact HB.out)⟩
      · replace c10 := Bool.eq_false_iff.mpr c10
        subst c10
        have H1 : ((some (([] : List (S53)) : List (S53))).bind fun y152 => (if y152.length + l0.length < 2199023255552 then (spec_MergeLogs.l0 kj2 l0 (y152 ++ l0) l1 (l1.length : Int) 0) else (none))) = some (r1, r2) := by rw [if_neg (show ¬ (false = true) by decide)] at H; exact H
        clear H
        have H := H1
        clear H1
        obtain ⟨y152, hy152⟩ : ∃ y_ : List (S53), y_ = (([] : List (S53))) := ⟨_, rfl⟩
        replace H : (if y152.length + l0.length < 2199023255552 then (spec_MergeLogs.l0 kj2 l0 (y152 ++ l0) l1 (l1.length : Int) 0) else (none)) = some (r1, r2) := by first | (rw [hy152]; with_reducible exact H) | (have H2_ := (Option.bind_some _ _).symm.trans H; rw [hy152]; with_reducible exact H2_) | (have H2_ := (Option.bind_some _ _).symm.trans H; with_reducible exact H2_) | with_reducible exact H | (rw [hy152]; exact H) | exact H
        have Ny152 := Aside0.mk hy152
        clear hy152
        by_cases c11 : y152.length + l0.length < 2199023255552
        · rw [if_pos c11] at H
          have LMc11 := Aside0.mk c11
          clear c11
          obtain ⟨y155, hy155⟩ : ∃ y_ : List (S53), y_ = (y152 ++ l0) := ⟨_, rfl⟩
          replace H : (spec_MergeLogs.l0 kj2 l0 y155 l1 (l1.length : Int) 0) = some (r1, r2) := by first | (rw [hy155]; with_reducible exact H) | (have H2_ := (Option.bind_some _ _).symm.trans H; rw [hy155]; with_reducible exact H2_) | (have H2_ := (Option.bind_some _ _).symm.trans H; with_reducible exact H2_) | with_reducible exact H | (rw [hy155]; exact H) | exact H
          have Ny155 := Aside0.mk hy155
          clear hy155
          have H' := Aside0.mk H
          clear H
          go_wp2_with (first | ((with_reducible refine gate_dst (N := 20) rfl ?_); refine Kd.R_lit k53 _ 53 ?hg (N := 20) ?hd (xs := ([] : List (S53))) (inner := []) (ok := fun _ => True) (okp := fun _ => True) ?hr ?hp (fun _ hk => hk) trivial (Below.refl _ _) (Nat.le_refl _) (by simp) ?_; (case hd => rfl); (case hg => rfl); (case hr => first | (go_simp; done) | (go_simp; rfl)); (case hp => exact (Reps.none _ _)); intro v153 w12 ho13 hb hg_ hnew_; clear hg_ hnew_; (first | rw [← Ny152.out] at ho13 | (simp only [Int.reduceToNat] at ho13; rw [← Ny152.out] at ho13)); have n0_ := Aside0.mk (Kd.R_lower ho13 (below_size (by repeat (first | (with_reducible first | exact HB.out | apply below_alloc | apply pw_below_drewN | apply below_drew1) | exact HB.out)))); have n1_ := Aside0.mk (below_step (by repeat (first | (with_reducible first | exact HB.out | apply below_alloc | apply pw_below_drewN | apply below_drew1) | exact HB.out)) hb); clear HB; have HO154 := n0_; have HB := n1_; clear n0_ n1_; clear hb ho13) | ((with_reducible refine gate_builtin (b := .append) (xs := #[.tmp 20, .tmp 21]) rfl ?_); at_builtin; refine Kd.R_append_rows k53 (w0 := w) w.heap.size rfl (.tmp 20) (.tmp 21) 25 53 (.agg #[(.int .i64 0), (.string ⟨#[]⟩), (.string ⟨#[]⟩), (.int .i64 0), (.int .i64 0), (.bool false)]) 64 rfl Tryd.underlying25 info53 rfl (by decide) (by omega) v153 y152 l0 _ _ _ (fun _ => True) (fun _ => False) rfl rfl ?aO ?aR (fun _ _ h => h) (fun _ h => h.elim) ?aF ?aB ?aS ?aL ?_; (case aR => repeat (first | exact (Kd.C_below HR0.out HB.out) | (with_reducible refine Kd.C_alloc ?_ _) | (with_reducible refine Kd.C_drewN ?_ _) | (with_reducible refine Kd.C_drew ?_))); (case aB => exact (by repeat (first | (with_reducible first | exact HB.out | apply below_alloc | apply pw_below_drewN | apply below_drew1) | exact HB.out))); (case aF => exact (fun _ _ => trivial)); (case aO => exact (by (with_reducible repeat (first | apply Kd.R_alloc | apply Kd.R_drewN | apply Kd.R_drew)); exact HO154.out)); (case aS => exact (below_size (by repeat (first | (with_reducible first | exact HB.out | apply below_alloc | apply pw_below_drewN | apply below_drew1) | exact HB.out)))); (case aL => have := LMc11.out; omega); intro v156 w14 ho hb hg hat; rw [← Ny155.out] at ho; have n0_ := Aside0.mk (hb); have n1_ := Aside0.mk (ho); clear HB; clear HO154; have HB := n0_; have HO157 := n1_; clear n0_ n1_; clear ho hb hg hat))
          go_loopg [6, 25] kj2 (fun kq v6 v25 w' => ∃ (x6_2 : List (S53)) (x25_2 : Int), v25 = .int .i64 x25_2 ∧ Aside0 (spec_MergeLogs.l0 kq l0 x6_2 l1 (l1.length : Int) x25_2 = some (r1, r2)) ∧ Aside0 (kq ≤ kj2) ∧ Aside0 (Kd.R k53 53 w' w.heap.size (fun _ => True) v6 x6_2) ∧ Aside0 (Below w.heap.size w w'))
          case atStart => exact ⟨(y155), (0), (by first | rfl | (simp; done) | (simp [*]; done)), H', ⟨Nat.le_refl _⟩, ⟨by (with_reducible repeat (first | apply Kd.R_alloc | apply Kd.R_drewN | apply Kd.R_drew)); exact HO157.out⟩, ⟨by repeat (first | (with_reducible first | exact HB.out | apply below_alloc | apply pw_below_drewN | apply below_drew1) | exact HB.out)⟩⟩
          case round =>
            clear H'
            try clear c1
            try clear p2
            try clear c5
            try clear c10
            try clear c11
            try clear p2
            obtain ⟨x6_2, x25_2, rfl, HA, HK2, HO_6, HB⟩ := hrel
            cases gk with
            | zero => exact absurd HA.out (by simp [spec_MergeLogs.l0])
            | succ k2 =>
              have H := HA.out
              clear HA
              simp only [spec_MergeLogs.l0] at H
              by_cases c15 : x25_2 < (l1.length : Int)
              · rw [if_pos c15] at H
                have c15b0 : decide (x25_2 < (l1.length : Int)) = true := decide_eq_true c15
                clear c15
                by_cases c16 : 0 ≤ x25_2
                · rw [if_pos c16] at H
                  have c16b0 : decide (0 ≤ x25_2) = true := decide_eq_true c16
                  clear c16
                  by_cases c17 : x25_2 < (l1.length : Int)
                  · rw [if_pos c17] at H
                    have c17b0 : decide (x25_2 < (l1.length : Int)) = true := decide_eq_true c17
                    clear c17
                    have H' := Aside0.mk H
                    clear H
                    have p159 : 0 ≤ (x25_2 : Int) := of_decide_eq_true (by first | (with_reducible assumption) | assumption)
                    have q159 : x25_2 < (l1.length : Int) := of_decide_eq_true (by first | (with_reducible assumption) | assumption)
                    obtain ⟨ad159, e159, hx159_0, hx159_1, hx159_2, hx159_3, hx159_4, hx159_5⟩ := at_T53 HR1.out x25_2 p159 q159
                    cases e159
                    replace hx159_0 := (HB.out.cell (World.block_lt_of_cell? w _ hx159_0)).trans hx159_0
                    replace hx159_1 := (HB.out.cell (World.block_lt_of_cell? w _ hx159_1)).trans hx159_1
                    replace hx159_2 := (HB.out.cell (World.block_lt_of_cell? w _ hx159_2)).trans hx159_2
                    replace hx159_3 := (HB.out.cell (World.block_lt_of_cell? w _ hx159_3)).trans hx159_3
                    replace hx159_4 := (HB.out.cell (World.block_lt_of_cell? w _ hx159_4)).trans hx159_4
                    replace hx159_5 := (HB.out.cell (World.block_lt_of_cell? w _ hx159_5)).trans hx159_5
                    replace p159 := eq_true p159
                    replace q159 := eq_true q159
                    go_wp2_with (first | ((with_reducible refine gate_dst (N := 8) rfl ?_); refine box_event ?hg (N := 8) ?hd (cs := #[.int .i64 0, .string (⟨#[]⟩ : ByteArray), .string (⟨#[]⟩ : ByteArray), .int .i64 0, .int .i64 0, .bool false]) (t := 53) ?hr ?_; (case hd => rfl); (case hg => rfl); (case hr => first | (go_simp; done) | (go_simp; rfl)); intro gb160 hg w18 hbox hb; have n0_ := Aside0.mk (Kd.R_below (Kd.R_elderB (by (with_reducible repeat (first | apply Kd.R_alloc | apply Kd.R_drewN | apply Kd.R_drew)); exact HO_6.out) gb160 (Nat.le_of_eq hg.symm)) hb); have n1_ := Aside0.mk (below_step (by repeat (first | (with_reducible first | exact HB.out | apply below_alloc | apply pw_below_drewN | apply below_drew1) | exact HB.out)) hb); have n2_ := Aside0.mk (hbox); have n3_ := Aside0.mk ((by rw [hg]; exact (below_size (by repeat (first | (with_reducible first | exact HB.out | apply below_alloc | apply pw_below_drewN | apply below_drew1) | exact HB.out))) : w.heap.size ≤ gb160)); have n4_ := Aside0.mk ((by rw [hg]; exact (below_size (by repeat (first | (with_reducible first | exact HB.out | apply below_alloc | apply pw_below_drewN | apply below_drew1) | exact HB.out))) : w.heap.size ≤ gb160)); clear HO_6; clear HB; have HO_6 := n0_; have HB := n1_; have BK160 := n2_; have GW160 := n3_; have GE160 := n4_; clear n0_ n1_ n2_ n3_ n4_; clear hb hbox hg; have hcz19_0 : w18.cell? ⟨gb160, 0, none⟩ = some (.int .i64 0) := (blk_cell BK160.out 0).trans rfl; have hcz19_1 : w18.cell? ⟨gb160, 1, none⟩ = some (.string (⟨#[]⟩ : ByteArray)) := (blk_cell BK160.out 1).trans rfl; have hcz19_2 : w18.cell? ⟨gb160, 2, none⟩ = some (.string (⟨#[]⟩ : ByteArray)) := (blk_cell BK160.out 2).trans rfl; have hcz19_3 : w18.cell? ⟨gb160, 3, none⟩ = some (.int .i64 0) := (blk_cell BK160.out 3).trans rfl; have hcz19_4 : w18.cell? ⟨gb160, 4, none⟩ = some (.int .i64 0) := (blk_cell BK160.out 4).trans rfl; have hcz19_5 : w18.cell? ⟨gb160, 5, none⟩ = some (.bool false) := (blk_cell BK160.out 5).trans rfl; have hfz19_0 := blk_frozen BK160.out 0; have hfz19_1 := blk_frozen BK160.out 1; have hfz19_2 := blk_frozen BK160.out 2; have hfz19_3 := blk_frozen BK160.out 3; have hfz19_4 := blk_frozen BK160.out 4; have hfz19_5 := blk_frozen BK160.out 5))
                    go_loopg [9, 31] k2 (fun kq v9 v31 w' => ∃ (x9_3 : Bool) (x31_3 : Int), v9 = .bool x9_3 ∧ v31 = .int .i64 x31_3 ∧ Aside0 (spec_MergeLogs.l1 kq l0 x6_2 x9_3 l1 (l1.length : Int) x25_2 l0 (l0.length : Int) x31_3 ((rd_T53 l1 x25_2).f0) ((rd_T53 l1 x25_2).f1) ((rd_T53 l1 x25_2).f2) ((rd_T53 l1 x25_2).f3.f0) ((rd_T53 l1 x25_2).f3.f1) ((rd_T53 l1 x25_2).f3.f2) = some (r1, r2)) ∧ Aside0 (kq ≤ k2) ∧ Aside0 (Kd.R k53 53 w' w.heap.size (fun k_ => k_ ≠ gb160) u6 x6_2) ∧ Aside0 (w'.heap[gb160]? = some (.cells #[.int .i64 ((rd_T53 l1 x25_2).f0), .string ((rd_T53 l1 x25_2).f1), .string ((rd_T53 l1 x25_2).f2), .int .i64 ((rd_T53 l1 x25_2).f3.f0), .int .i64 ((rd_T53 l1 x25_2).f3.f1), .bool ((rd_T53 l1 x25_2).f3.f2)] 53 (0, 0))) ∧ Aside0 (Below w.heap.size w w'))
                    case atStart => exact ⟨(false), (0), (by first | rfl | (simp; done) | (simp [*]; done)), (by first | rfl | (simp; done) | (simp [*]; done)), H', ⟨Nat.le_refl _⟩, ⟨by (with_reducible repeat (first | apply Kd.R_alloc | apply Kd.R_drewN | apply Kd.R_drew)); exact Kd.R_mono (Kd.R_far (p := ⟨gb160, 5, none⟩) (Kd.R_far (p := ⟨gb160, 4, none⟩) (Kd.R_far (p := ⟨gb160, 3, none⟩) (Kd.R_far (p := ⟨gb160, 2, none⟩) (Kd.R_far (p := ⟨gb160, 1, none⟩) (Kd.R_far (p := ⟨gb160, 0, none⟩) (Kd.R_mono HO_6.out (fun k_ hk => (⟨hk, hk.2⟩ : _ ∧ k_ ≠ gb160))) (fun _ hk => hk.2) (.int .i64 ((rd_T53 l1 x25_2).f0))) (fun _ hk => hk.2) (.string ((rd_T53 l1 x25_2).f1))) (fun _ hk => hk.2) (.string ((rd_T53 l1 x25_2).f2))) (fun _ hk => hk.2) (.int .i64 ((rd_T53 l1 x25_2).f3.f0))) (fun _ hk => hk.2) (.int .i64 ((rd_T53 l1 x25_2).f3.f1))) (fun _ hk => hk.2) (.bool ((rd_T53 l1 x25_2).f3.f2))) (fun _ hk => hk.1.2)⟩, ⟨by (with_reducible repeat (first | refine blk_drewN ?_ _ | refine blk_drew ?_ | refine blk_alloc ?_ _)); refine blk_put (cs := #[.int .i64 ((rd_T53 l1 x25_2).f0), .string ((rd_T53 l1 x25_2).f1), .string ((rd_T53 l1 x25_2).f2), .int .i64 ((rd_T53 l1 x25_2).f3.f0), .int .i64 ((rd_T53 l1 x25_2).f3.f1), .bool false]) ?_ 5 _ rfl; (with_reducible repeat (first | refine blk_drewN ?_ _ | refine blk_drew ?_ | refine blk_alloc ?_ _)); refine blk_put (cs := #[.int .i64 ((rd_T53 l1 x25_2).f0), .string ((rd_T53 l1 x25_2).f1), .string ((rd_T53 l1 x25_2).f2), .int .i64 ((rd_T53 l1 x25_2).f3.f0), .int .i64 0, .bool false]) ?_ 4 _ rfl; (with_reducible repeat (first | refine blk_drewN ?_ _ | refine blk_drew ?_ | refine blk_alloc ?_ _)); refine blk_put (cs := #[.int .i64 ((rd_T53 l1 x25_2).f0), .string ((rd_T53 l1 x25_2).f1), .string ((rd_T53 l1 x25_2).f2), .int .i64 0, .int .i64 0, .bool false]) ?_ 3 _ rfl; (with_reducible repeat (first | refine blk_drewN ?_ _ | refine blk_drew ?_ | refine blk_alloc ?_ _)); refine blk_put (cs := #[.int .i64 ((rd_T53 l1 x25_2).f0), .string ((rd_T53 l1 x25_2).f1), .string (⟨#[]⟩ : ByteArray), .int .i64 0, .int .i64 0, .bool false]) ?_ 2 _ rfl; (with_reducible repeat (first | refine blk_drewN ?_ _ | refine blk_drew ?_ | refine blk_alloc ?_ _)); refine blk_put (cs := #[.int .i64 ((rd_T53 l1 x25_2).f0), .string (⟨#[]⟩ : ByteArray), .string (⟨#[]⟩ : ByteArray), .int .i64 0, .int .i64 0, .bool false]) ?_ 1 _ rfl; (with_reducible repeat (first | refine blk_drewN ?_ _ | refine blk_drew ?_ | refine blk_alloc ?_ _)); refine blk_put (cs := #[.int .i64 0, .string (⟨#[]⟩ : ByteArray), .string (⟨#[]⟩ : ByteArray), .int .i64 0, .int .i64 0, .bool false]) ?_ 0 _ rfl; (with_reducible repeat (first | refine blk_drewN ?_ _ | refine blk_drew ?_ | refine blk_alloc ?_ _)); exact BK160.out⟩, ⟨by repeat (first | (with_reducible first | exact HB.out | apply below_alloc | apply pw_below_drewN | apply below_drew1 | refine below_set ?_ GE160.out) | exact HB.out)⟩⟩
                    case round =>
                      clear H'
                      try clear c1
                      try clear p1
                      try clear q1
                      try clear hx1
                      try clear p2
                      try clear c5
                      try clear c10
                      try clear c11
                      try clear c15
                      try clear c15b0
                      try clear p15
                      try clear q15
                      try clear hx15
                      try clear c16
                      try clear c16b0
                      try clear c17
                      try clear c17b0
                      try clear hcz19_0
                      try clear hcz19_1
                      try clear hcz19_2
                      try clear hcz19_3
                      try clear hcz19_4
                      try clear hcz19_5
                      try clear hfz19_0
                      try clear hfz19_1
                      try clear hfz19_2
                      try clear hfz19_3
                      try clear hfz19_4
                      try clear hfz19_5
                      try clear hx159_0
                      try clear hx159_1
                      try clear hx159_2
                      try clear hx159_3
                      try clear hx159_4
                      try clear hx159_5
                      try clear p159
                      try clear p2
                      try clear q159
                      obtain ⟨x9_3, x31_3, rfl, rfl, HA, HK3, HO_6, BK160, HB⟩ := hrel
                      cases gk with
                      | zero => exact absurd HA.out (by simp [spec_MergeLogs.l1])
                      | succ k3 =>
                        have H := HA.out
                        clear HA
                        simp only [spec_MergeLogs.l1] at H
                        by_cases c20 : x31_3 < (l0.length : Int)
                        · rw [if_pos c20] at H
                          have c20b0 : decide (x31_3 < (l0.length : Int)) = true := decide_eq_true c20
                          clear c20
                          by_cases c21 : 0 ≤ x31_3
                          · rw [if_pos c21] at H
                            have c21b0 : decide (0 ≤ x31_3) = true := decide_eq_true c21
                            clear c21
                            by_cases c22 : x31_3 < (l0.length : Int)
                            · rw [if_pos c22] at H
                              have c22b0 : decide (x31_3 < (l0.length : Int)) = true := decide_eq_true c22
                              clear c22
                              have HC23 := Aside0.mk H
                              clear H
                              have p164 : 0 ≤ (x31_3 : Int) := of_decide_eq_true (by first | (with_reducible assumption) | assumption)
                              have q164 : x31_3 < (l0.length : Int) := of_decide_eq_true (by first | (with_reducible assumption) | assumption)
                              obtain ⟨ad164, e164, hx164_0, hx164_1, hx164_2, hx164_3, hx164_4, hx164_5⟩ := at_T53 HR0.out x31_3 p164 q164
                              cases e164
                              replace hx164_0 := (HB.out.cell (World.block_lt_of_cell? w _ hx164_0)).trans hx164_0
                              replace hx164_1 := (HB.out.cell (World.block_lt_of_cell? w _ hx164_1)).trans hx164_1
                              replace hx164_2 := (HB.out.cell (World.block_lt_of_cell? w _ hx164_2)).trans hx164_2
                              replace hx164_3 := (HB.out.cell (World.block_lt_of_cell? w _ hx164_3)).trans hx164_3
                              replace hx164_4 := (HB.out.cell (World.block_lt_of_cell? w _ hx164_4)).trans hx164_4
                              replace hx164_5 := (HB.out.cell (World.block_lt_of_cell? w _ hx164_5)).trans hx164_5
                              replace p164 := eq_true p164
                              replace q164 := eq_true q164
                              go_upto_region 11 with (first | ((with_reducible refine gate_dst (N := 11) rfl ?_); refine box_event ?hg (N := 11) ?hd (cs := #[.int .i64 0, .string (⟨#[]⟩ : ByteArray), .string (⟨#[]⟩ : ByteArray), .int .i64 0, .int .i64 0, .bool false]) (t := 53) ?hr ?_; (case hd => rfl); (case hg => rfl); (case hr => first | (go_simp; done) | (go_simp; rfl)); intro gb165 hg w24 hbox hb; have n0_ := Aside0.mk (Kd.R_below (Kd.R_elderB (by (with_reducible repeat (first | apply Kd.R_alloc | apply Kd.R_drewN | apply Kd.R_drew)); exact HO_6.out) gb165 (Nat.le_of_eq hg.symm)) hb); have n1_ := Aside0.mk (blk_below (g := gb160) (o := .cells #[.int .i64 ((rd_T53 l1 x25_2).f0), .string ((rd_T53 l1 x25_2).f1), .string ((rd_T53 l1 x25_2).f2), .int .i64 ((rd_T53 l1 x25_2).f3.f0), .int .i64 ((rd_T53 l1 x25_2).f3.f1), .bool ((rd_T53 l1 x25_2).f3.f2)] 53 (0, 0)) (by (with_reducible repeat (first | refine blk_drewN ?_ _ | refine blk_drew ?_ | refine blk_alloc ?_ _)); exact BK160.out) hb); have n2_ := Aside0.mk (below_step (by repeat (first | (with_reducible first | exact HB.out | apply below_alloc | apply pw_below_drewN | apply below_drew1 | refine below_set ?_ GE160.out) | exact HB.out)) hb); have n3_ := Aside0.mk (hbox); have n4_ := Aside0.mk ((by rw [hg]; exact (below_size (by repeat (first | (with_reducible first | exact HB.out | apply below_alloc | apply pw_below_drewN | apply below_drew1 | refine below_set ?_ GE160.out) | exact HB.out))) : w.heap.size ≤ gb165)); have n5_ := Aside0.mk ((by rw [hg]; exact (below_size (by repeat (first | (with_reducible first | exact HB.out | apply below_alloc | apply pw_below_drewN | apply below_drew1 | refine below_set ?_ GE160.out) | exact HB.out))) : w.heap.size ≤ gb165)); have n6_ := Aside0.mk ((by rw [hg]; exact Nat.ne_of_lt (blk_lt (g := gb160) (o := .cells #[.int .i64 ((rd_T53 l1 x25_2).f0), .string ((rd_T53 l1 x25_2).f1), .string ((rd_T53 l1 x25_2).f2), .int .i64 ((rd_T53 l1 x25_2).f3.f0), .int .i64 ((rd_T53 l1 x25_2).f3.f1), .bool ((rd_T53 l1 x25_2).f3.f2)] 53 (0, 0)) (by (with_reducible repeat (first | refine blk_drewN ?_ _ | refine blk_drew ?_ | refine blk_alloc ?_ _)); exact BK160.out)) : gb160 ≠ gb165)); have n7_ := Aside0.mk ((by rw [hg]; exact Nat.ne_of_gt (blk_lt (g := gb160) (o := .cells #[.int .i64 ((rd_T53 l1 x25_2).f0), .string ((rd_T53 l1 x25_2).f1), .string ((rd_T53 l1 x25_2).f2), .int .i64 ((rd_T53 l1 x25_2).f3.f0), .int .i64 ((rd_T53 l1 x25_2).f3.f1), .bool ((rd_T53 l1 x25_2).f3.f2)] 53 (0, 0)) (by (with_reducible repeat (first | refine blk_drewN ?_ _ | refine blk_drew ?_ | refine blk_alloc ?_ _)); exact BK160.out)) : gb165 ≠ gb160)); clear HO_6; clear BK160; clear HB; have HO_6 := n0_; have BK160 := n1_; have HB := n2_; have BK165 := n3_; have GW165 := n4_; have GE165 := n5_; have NB160_165 := n6_; have NB165_160 := n7_; clear n0_ n1_ n2_ n3_ n4_ n5_ n6_ n7_; clear hb hbox hg; have hnb25 := NB165_160.out; have hnc25 := NB160_165.out; have hcz26_0 : w24.cell? ⟨gb165, 0, none⟩ = some (.int .i64 0) := (blk_cell BK165.out 0).trans rfl; have hcz26_1 : w24.cell? ⟨gb165, 1, none⟩ = some (.string (⟨#[]⟩ : ByteArray)) := (blk_cell BK165.out 1).trans rfl; have hcz26_2 : w24.cell? ⟨gb165, 2, none⟩ = some (.string (⟨#[]⟩ : ByteArray)) := (blk_cell BK165.out 2).trans rfl; have hcz26_3 : w24.cell? ⟨gb165, 3, none⟩ = some (.int .i64 0) := (blk_cell BK165.out 3).trans rfl; have hcz26_4 : w24.cell? ⟨gb165, 4, none⟩ = some (.int .i64 0) := (blk_cell BK165.out 4).trans rfl; have hcz26_5 : w24.cell? ⟨gb165, 5, none⟩ = some (.bool false) := (blk_cell BK165.out 5).trans rfl; have hfz26_0 := blk_frozen BK165.out 0; have hfz26_1 := blk_frozen BK165.out 1; have hfz26_2 := blk_frozen BK165.out 2; have hfz26_3 := blk_frozen BK165.out 3; have hfz26_4 := blk_frozen BK165.out 4; have hfz26_5 := blk_frozen BK165.out 5))
                              (try simp only [Act.put, List.setIfInBounds_toArray, List.set_cons_zero, List.set_cons_succ])
                              go_cut [46] (fun v46 wc => ∃ (kq : Nat) (x46_22 : Bool), v46 = .bool x46_22 ∧ Aside0 (spec_MergeLogs.j3 kq l0 x6_2 x9_3 l1 (l1.length : Int) x25_2 l0 (l0.length : Int) x31_3 x46_22 ((rd_T53 l1 x25_2).f0) ((rd_T53 l1 x25_2).f1) ((rd_T53 l1 x25_2).f2) ((rd_T53 l1 x25_2).f3.f0) ((rd_T53 l1 x25_2).f3.f1) ((rd_T53 l1 x25_2).f3.f2) ((rd_T53 l0 x31_3).f0) ((rd_T53 l0 x31_3).f1) ((rd_T53 l0 x31_3).f2) ((rd_T53 l0 x31_3).f3.f0) ((rd_T53 l0 x31_3).f3.f1) ((rd_T53 l0 x31_3).f3.f2) = some (r1, r2)) ∧ Aside0 (kq ≤ k3) ∧ Aside0 (Kd.R k53 53 wc w.heap.size (fun k_ => k_ ≠ gb160 ∧ k_ ≠ gb165) u6 x6_2) ∧ Aside0 (wc.heap[gb160]? = some (.cells #[.int .i64 ((rd_T53 l1 x25_2).f0), .string ((rd_T53 l1 x25_2).f1), .string ((rd_T53 l1 x25_2).f2), .int .i64 ((rd_T53 l1 x25_2).f3.f0), .int .i64 ((rd_T53 l1 x25_2).f3.f1), .bool ((rd_T53 l1 x25_2).f3.f2)] 53 (0, 0))) ∧ Aside0 (wc.heap[gb165]? = some (.cells #[.int .i64 ((rd_T53 l0 x31_3).f0), .string ((rd_T53 l0 x31_3).f1), .string ((rd_T53 l0 x31_3).f2), .int .i64 ((rd_T53 l0 x31_3).f3.f0), .int .i64 ((rd_T53 l0 x31_3).f3.f1), .bool ((rd_T53 l0 x31_3).f3.f2)] 53 (0, 0))) ∧ Aside0 (Below w.heap.size w wc))
                              case first =>
                                have H := HC23.out
                                clear HC23
                                by_cases c27 : ((rd_T53 l0 x31_3).f1).toList = ((rd_T53 l1 x25_2).f1).toList
                                · rw [if_pos c27] at H
                                  have c27b0 : (((rd_T53 l0 x31_3).f1).toList == ((rd_T53 l1 x25_2).f1).toList) = true := beq_iff_eq.mpr c27
                                  have c27b1 : (((rd_T53 l0 x31_3).f1).toList != ((rd_T53 l1 x25_2).f1).toList) = false := bne_eq_false_iff_eq.mpr c27
                                  clear c27
                                  (first | rw [c27b0] | (simp only [i64_w, i32_w]; rw [c27b0]) | skip)
                                  have H' := Aside0.mk H
                                  clear H
                                  have hnb28 := NB165_160.out
                                  have hnc28 := NB160_165.out
                                  have hcz29_0 : w24.cell? ⟨gb165, 0, none⟩ = some (.int .i64 0) := (blk_cell BK165.out 0).trans rfl
                                  have hcz29_1 : w24.cell? ⟨gb165, 1, none⟩ = some (.string (⟨#[]⟩ : ByteArray)) := (blk_cell BK165.out 1).trans rfl
                                  have hcz29_2 : w24.cell? ⟨gb165, 2, none⟩ = some (.string (⟨#[]⟩ : ByteArray)) := (blk_cell BK165.out 2).trans rfl
                                  have hcz29_3 : w24.cell? ⟨gb165, 3, none⟩ = some (.int .i64 0) := (blk_cell BK165.out 3).trans rfl
                                  have hcz29_4 : w24.cell? ⟨gb165, 4, none⟩ = some (.int .i64 0) := (blk_cell BK165.out 4).trans rfl
                                  have hcz29_5 : w24.cell? ⟨gb165, 5, none⟩ = some (.bool false) := (blk_cell BK165.out 5).trans rfl
                                  have hfz29_0 := blk_frozen BK165.out 0
                                  have hfz29_1 := blk_frozen BK165.out 1
                                  have hfz29_2 := blk_frozen BK165.out 2
                                  have hfz29_3 := blk_frozen BK165.out 3
                                  have hfz29_4 := blk_frozen BK165.out 4
                                  have hfz29_5 := blk_frozen BK165.out 5
                                  have hcz30_0 : w24.cell? ⟨gb160, 0, none⟩ = some (.int .i64 ((rd_T53 l1 x25_2).f0)) := (blk_cell BK160.out 0).trans rfl
                                  have hcz30_1 : w24.cell? ⟨gb160, 1, none⟩ = some (.string ((rd_T53 l1 x25_2).f1)) := (blk_cell BK160.out 1).trans rfl
                                  have hcz30_2 : w24.cell? ⟨gb160, 2, none⟩ = some (.string ((rd_T53 l1 x25_2).f2)) := (blk_cell BK160.out 2).trans rfl
                                  have hcz30_3 : w24.cell? ⟨gb160, 3, none⟩ = some (.int .i64 ((rd_T53 l1 x25_2).f3.f0)) := (blk_cell BK160.out 3).trans rfl
                                  have hcz30_4 : w24.cell? ⟨gb160, 4, none⟩ = some (.int .i64 ((rd_T53 l1 x25_2).f3.f1)) := (blk_cell BK160.out 4).trans rfl
                                  have hcz30_5 : w24.cell? ⟨gb160, 5, none⟩ = some (.bool ((rd_T53 l1 x25_2).f3.f2)) := (blk_cell BK160.out 5).trans rfl
                                  have hfz30_0 := blk_frozen BK160.out 0
                                  have hfz30_1 := blk_frozen BK160.out 1
                                  have hfz30_2 := blk_frozen BK160.out 2
                                  have hfz30_3 := blk_frozen BK160.out 3
                                  have hfz30_4 := blk_frozen BK160.out 4
                                  have hfz30_5 := blk_frozen BK160.out 5
                                  go_wp2
                                  go_meet
                                  case rel => exact ⟨_, ((((rd_T53 l0 x31_3).f3.f0) == ((rd_T53 l1 x25_2).f3.f0) && (((rd_T53 l0 x31_3).f3.f1) == ((rd_T53 l1 x25_2).f3.f1) && (((rd_T53 l0 x31_3).f3.f2) == ((rd_T53 l1 x25_2).f3.f2))))), (by first | rfl | (simp; done) | (simp [*]; done)), H', ⟨by have := HJ2.out; have := HK2.out; have := HK3.out; first | omega | exact Nat.le_refl _⟩, ⟨by (with_reducible repeat (first | apply Kd.R_alloc | apply Kd.R_drewN | apply Kd.R_drew)); exact Kd.R_mono (Kd.R_far (p := ⟨gb165, 5, none⟩) (Kd.R_far (p := ⟨gb165, 4, none⟩) (Kd.R_far (p := ⟨gb165, 3, none⟩) (Kd.R_far (p := ⟨gb165, 2, none⟩) (Kd.R_far (p := ⟨gb165, 1, none⟩) (Kd.R_far (p := ⟨gb165, 0, none⟩) (Kd.R_mono HO_6.out (fun k_ hk => (⟨hk, hk.2⟩ : _ ∧ k_ ≠ gb165))) (fun _ hk => hk.2) (.int .i64 ((rd_T53 l0 x31_3).f0))) (fun _ hk => hk.2) (.string ((rd_T53 l0 x31_3).f1))) (fun _ hk => hk.2) (.string ((rd_T53 l0 x31_3).f2))) (fun _ hk => hk.2) (.int .i64 ((rd_T53 l0 x31_3).f3.f0))) (fun _ hk => hk.2) (.int .i64 ((rd_T53 l0 x31_3).f3.f1))) (fun _ hk => hk.2) (.bool ((rd_T53 l0 x31_3).f3.f2))) (fun _ hk => ⟨hk.1.1, hk.1.2⟩)⟩, ⟨by (with_reducible repeat (first | refine blk_drewN ?_ _ | refine blk_drew ?_ | refine blk_alloc ?_ _)); refine blk_far ?_ NB160_165.out _; (with_reducible repeat (first | refine blk_drewN ?_ _ | refine blk_drew ?_ | refine blk_alloc ?_ _)); refine blk_far ?_ NB160_165.out _; (with_reducible repeat (first | refine blk_drewN ?_ _ | refine blk_drew ?_ | refine blk_alloc ?_ _)); refine blk_far ?_ NB160_165.out _; (with_reducible repeat (first | refine blk_drewN ?_ _ | refine blk_drew ?_ | refine blk_alloc ?_ _)); refine blk_far ?_ NB160_165.out _; (with_reducible repeat (first | refine blk_drewN ?_ _ | refine blk_drew ?_ | refine blk_alloc ?_ _)); refine blk_far ?_ NB160_165.out _; (with_reducible repeat (first | refine blk_drewN ?_ _ | refine blk_drew ?_ | refine blk_alloc ?_ _)); refine blk_far ?_ NB160_165.out _; (with_reducible repeat (first | refine blk_drewN ?_ _ | refine blk_drew ?_ | refine blk_alloc ?_ _)); exact BK160.out⟩, ⟨by (with_reducible repeat (first | refine blk_drewN ?_ _ | refine blk_drew ?_ | refine blk_alloc ?_ _)); refine blk_put (cs := #[.int .i64 ((rd_T53 l0 x31_3).f0), .string ((rd_T53 l0 x31_3).f1), .string ((rd_T53 l0 x31_3).f2), .int .i64 ((rd_T53 l0 x31_3).f3.f0), .int .i64 ((rd_T53 l0 x31_3).f3.f1), .bool false]) ?_ 5 _ rfl; (with_reducible repeat (first | refine blk_drewN ?_ _ | refine blk_drew ?_ | refine blk_alloc ?_ _)); refine blk_put (cs := #[.int .i64 ((rd_T53 l0 x31_3).f0), .string ((rd_T53 l0 x31_3).f1), .string ((rd_T53 l0 x31_3).f2), .int .i64 ((rd_T53 l0 x31_3).f3.f0), .int .i64 0, .bool false]) ?_ 4 _ rfl; (with_reducible repeat (first | refine blk_drewN ?_ _ | refine blk_drew ?_ | refine blk_alloc ?_ _)); refine blk_put (cs := #[.int .i64 ((rd_T53 l0 x31_3).f0), .string ((rd_T53 l0 x31_3).f1), .string ((rd_T53 l0 x31_3).f2), .int .i64 0, .int .i64 0, .bool false]) ?_ 3 _ rfl; (with_reducible repeat (first | refine blk_drewN ?_ _ | refine blk_drew ?_ | refine blk_alloc ?_ _)); refine blk_put (cs := #[.int .i64 ((rd_T53 l0 x31_3).f0), .string ((rd_T53 l0 x31_3).f1), .string (⟨#[]⟩ : ByteArray), .int .i64 0, .int .i64 0, .bool false]) ?_ 2 _ rfl; (with_reducible repeat (first | refine blk_drewN ?_ _ | refine blk_drew ?_ | refine blk_alloc ?_ _)); refine blk_put (cs := #[.int .i64 ((rd_T53 l0 x31_3).f0), .string (⟨#[]⟩ : ByteArray), .string (⟨#[]⟩ : ByteArray), .int .i64 0, .int .i64 0, .bool false]) ?_ 1 _ rfl; (with_reducible repeat (first | refine blk_drewN ?_ _ | refine blk_drew ?_ | refine blk_alloc ?_ _)); refine blk_put (cs := #[.int .i64 0, .string (⟨#[]⟩ : ByteArray), .string (⟨#[]⟩ : ByteArray), .int .i64 0, .int .i64 0, .bool false]) ?_ 0 _ rfl; (with_reducible repeat (first | refine blk_drewN ?_ _ | refine blk_drew ?_ | refine blk_alloc ?_ _)); exact BK165.out⟩, ⟨by repeat (first | (with_reducible first | exact HB.out | apply below_alloc | apply pw_below_drewN | apply below_drew1 | refine below_set ?_ GE160.out | refine below_set ?_ GE165.out) | exact HB.out)⟩⟩
                                · rw [if_neg c27] at H
                                  have c27b0 : (((rd_T53 l0 x31_3).f1).toList == ((rd_T53 l1 x25_2).f1).toList) = false := beq_eq_false_iff_ne.mpr c27
                                  have c27b1 : (((rd_T53 l0 x31_3).f1).toList != ((rd_T53 l1 x25_2).f1).toList) = true := bne_iff_ne.mpr c27
                                  (first | rw [c27b0] | (simp only [i64_w, i32_w]; rw [c27b0]) | skip)
                                  have H' := Aside0.mk H
                                  clear H
                                  have hnb31 := NB165_160.out
                                  have hnc31 := NB160_165.out
                                  have hcz32_0 : w24.cell? ⟨gb165, 0, none⟩ = some (.int .i64 0) := (blk_cell BK165.out 0).trans rfl
                                  have hcz32_1 : w24.cell? ⟨gb165, 1, none⟩ = some (.string (⟨#[]⟩ : ByteArray)) := (blk_cell BK165.out 1).trans rfl
                                  have hcz32_2 : w24.cell? ⟨gb165, 2, none⟩ = some (.string (⟨#[]⟩ : ByteArray)) := (blk_cell BK165.out 2).trans rfl
                                  have hcz32_3 : w24.cell? ⟨gb165, 3, none⟩ = some (.int .i64 0) := (blk_cell BK165.out 3).trans rfl
                                  have hcz32_4 : w24.cell? ⟨gb165, 4, none⟩ = some (.int .i64 0) := (blk_cell BK165.out 4).trans rfl
                                  have hcz32_5 : w24.cell? ⟨gb165, 5, none⟩ = some (.bool false) := (blk_cell BK165.out 5).trans rfl
                                  have hfz32_0 := blk_frozen BK165.out 0
                                  have hfz32_1 := blk_frozen BK165.out 1
                                  have hfz32_2 := blk_frozen BK165.out 2
                                  have hfz32_3 := blk_frozen BK165.out 3
                                  have hfz32_4 := blk_frozen BK165.out 4
                                  have hfz32_5 := blk_frozen BK165.out 5
                                  have hcz33_0 : w24.cell? ⟨gb160, 0, none⟩ = some (.int .i64 ((rd_T53 l1 x25_2).f0)) := (blk_cell BK160.out 0).trans rfl
                                  have hcz33_1 : w24.cell? ⟨gb160, 1, none⟩ = some (.string ((rd_T53 l1 x25_2).f1)) := (blk_cell BK160.out 1).trans rfl
                                  have hcz33_2 : w24.cell? ⟨gb160, 2, none⟩ = some (.string ((rd_T53 l1 x25_2).f2)) := (blk_cell BK160.out 2).trans rfl
                                  have hcz33_3 : w24.cell? ⟨gb160, 3, none⟩ = some (.int .i64 ((rd_T53 l1 x25_2).f3.f0)) := (blk_cell BK160.out 3).trans rfl
                                  have hcz33_4 : w24.cell? ⟨gb160, 4, none⟩ = some (.int .i64 ((rd_T53 l1 x25_2).f3.f1)) := (blk_cell BK160.out 4).trans rfl
                                  have hcz33_5 : w24.cell? ⟨gb160, 5, none⟩ = some (.bool ((rd_T53 l1 x25_2).f3.f2)) := (blk_cell BK160.out 5).trans rfl
                                  have hfz33_0 := blk_frozen BK160.out 0
                                  have hfz33_1 := blk_frozen BK160.out 1
                                  have hfz33_2 := blk_frozen BK160.out 2
                                  have hfz33_3 := blk_frozen BK160.out 3
                                  have hfz33_4 := blk_frozen BK160.out 4
                                  have hfz33_5 := blk_frozen BK160.out 5
                                  go_wp2
                                  go_meet
                                  case rel => exact ⟨_, (false), (by first | rfl | (simp; done) | (simp [*]; done)), H', ⟨by have := HJ2.out; have := HK2.out; have := HK3.out; first | omega | exact Nat.le_refl _⟩, ⟨by (with_reducible repeat (first | apply Kd.R_alloc | apply Kd.R_drewN | apply Kd.R_drew)); exact Kd.R_mono (Kd.R_far (p := ⟨gb165, 5, none⟩) (Kd.R_far (p := ⟨gb165, 4, none⟩) (Kd.R_far (p := ⟨gb165, 3, none⟩) (Kd.R_far (p := ⟨gb165, 2, none⟩) (Kd.R_far (p := ⟨gb165, 1, none⟩) (Kd.R_far (p := ⟨gb165, 0, none⟩) (Kd.R_mono HO_6.out (fun k_ hk => (⟨hk, hk.2⟩ : _ ∧ k_ ≠ gb165))) (fun _ hk => hk.2) (.int .i64 ((rd_T53 l0 x31_3).f0))) (fun _ hk => hk.2) (.string ((rd_T53 l0 x31_3).f1))) (fun _ hk => hk.2) (.string ((rd_T53 l0 x31_3).f2))) (fun _ hk => hk.2) (.int .i64 ((rd_T53 l0 x31_3).f3.f0))) (fun _ hk => hk.2) (.int .i64 ((rd_T53 l0 x31_3).f3.f1))) (fun _ hk => hk.2) (.bool ((rd_T53 l0 x31_3).f3.f2))) (fun _ hk => ⟨hk.1.1, hk.1.2⟩)⟩, ⟨by (with_reducible repeat (first | refine blk_drewN ?_ _ | refine blk_drew ?_ | refine blk_alloc ?_ _)); refine blk_far ?_ NB160_165.out _; (with_reducible repeat (first | refine blk_drewN ?_ _ | refine blk_drew ?_ | refine blk_alloc ?_ _)); refine blk_far ?_ NB160_165.out _; (with_reducible repeat (first | refine blk_drewN ?_ _ | refine blk_drew ?_ | refine blk_alloc ?_ _)); refine blk_far ?_ NB160_165.out _; (with_reducible repeat (first | refine blk_drewN ?_ _ | refine blk_drew ?_ | refine blk_alloc ?_ _)); refine blk_far ?_ NB160_165.out _; (with_reducible repeat (first | refine blk_drewN ?_ _ | refine blk_drew ?_ | refine blk_alloc ?_ _)); refine blk_far ?_ NB160_165.out _; (with_reducible repeat (first | refine blk_drewN ?_ _ | refine blk_drew ?_ | refine blk_alloc ?_ _)); refine blk_far ?_ NB160_165.out _; (with_reducible repeat (first | refine blk_drewN ?_ _ | refine blk_drew ?_ | refine blk_alloc ?_ _)); exact BK160.out⟩, ⟨by (with_reducible repeat (first | refine blk_drewN ?_ _ | refine blk_drew ?_ | refine blk_alloc ?_ _)); refine blk_put (cs := #[.int .i64 ((rd_T53 l0 x31_3).f0), .string ((rd_T53 l0 x31_3).f1), .string ((rd_T53 l0 x31_3).f2), .int .i64 ((rd_T53 l0 x31_3).f3.f0), .int .i64 ((rd_T53 l0 x31_3).f3.f1), .bool false]) ?_ 5 _ rfl; (with_reducible repeat (first | refine blk_drewN ?_ _ | refine blk_drew ?_ | refine blk_alloc ?_ _)); refine blk_put (cs := #[.int .i64 ((rd_T53 l0 x31_3).f0), .string ((rd_T53 l0 x31_3).f1), .string ((rd_T53 l0 x31_3).f2), .int .i64 ((rd_T53 l0 x31_3).f3.f0), .int .i64 0, .bool false]) ?_ 4 _ rfl; (with_reducible repeat (first | refine blk_drewN ?_ _ | refine blk_drew ?_ | refine blk_alloc ?_ _)); refine blk_put (cs := #[.int .i64 ((rd_T53 l0 x31_3).f0), .string ((rd_T53 l0 x31_3).f1), .string ((rd_T53 l0 x31_3).f2), .int .i64 0, .int .i64 0, .bool false]) ?_ 3 _ rfl; (with_reducible repeat (first | refine blk_drewN ?_ _ | refine blk_drew ?_ | refine blk_alloc ?_ _)); refine blk_put (cs := #[.int .i64 ((rd_T53 l0 x31_3).f0), .string ((rd_T53 l0 x31_3).f1), .string (⟨#[]⟩ : ByteArray), .int .i64 0, .int .i64 0, .bool false]) ?_ 2 _ rfl; (with_reducible repeat (first | refine blk_drewN ?_ _ | refine blk_drew ?_ | refine blk_alloc ?_ _)); refine blk_put (cs := #[.int .i64 ((rd_T53 l0 x31_3).f0), .string (⟨#[]⟩ : ByteArray), .string (⟨#[]⟩ : ByteArray), .int .i64 0, .int .i64 0, .bool false]) ?_ 1 _ rfl; (with_reducible repeat (first | refine blk_drewN ?_ _ | refine blk_drew ?_ | refine blk_alloc ?_ _)); refine blk_put (cs := #[.int .i64 0, .string (⟨#[]⟩ : ByteArray), .string (⟨#[]⟩ : ByteArray), .int .i64 0, .int .i64 0, .bool false]) ?_ 0 _ rfl; (with_reducible repeat (first | refine blk_drewN ?_ _ | refine blk_drew ?_ | refine blk_alloc ?_ _)); exact BK165.out⟩, ⟨by repeat (first | (with_reducible first | exact HB.out | apply below_alloc | apply pw_below_drewN | apply below_drew1 | refine below_set ?_ GE160.out | refine below_set ?_ GE165.out) | exact HB.out)⟩⟩
                              case rest =>
                                clear HC23
                                try clear c1
                                try clear p1
                                try clear q1
                                try clear hx1
                                try clear c2
                                try clear p2
                                try clear c3
                                try clear c5
                                try clear c10
                                try clear c11
                                try clear c15
                                try clear c15b0
                                try clear p15
                                try clear q15
                                try clear hx15
                                try clear c16
                                try clear c16b0
                                try clear p16
                                try clear q16
                                try clear hx16
                                try clear c17
                                try clear c17b0
                                try clear c20
                                try clear c20b0
                                try clear c21
                                try clear c21b0
                                try clear c22
                                try clear c22b0
                                try clear c25
                                try clear c27
                                try clear c27b0
                                try clear c27b1
                                try clear c28
                                try clear c31
                                try clear hcz19_0
                                try clear hcz19_1
                                try clear hcz19_2
                                try clear hcz19_3
                                try clear hcz19_4
                                try clear hcz19_5
                                try clear hcz26_0
                                try clear hcz26_1
                                try clear hcz26_2
                                try clear hcz26_3
                                try clear hcz26_4
                                try clear hcz26_5
                                try clear hcz29_0
                                try clear hcz29_1
                                try clear hcz29_2
                                try clear hcz29_3
                                try clear hcz29_4
                                try clear hcz29_5
                                try clear hcz30_0
                                try clear hcz30_1
                                try clear hcz30_2
                                try clear hcz30_3
                                try clear hcz30_4
                                try clear hcz30_5
                                try clear hcz32_0
                                try clear hcz32_1
                                try clear hcz32_2
                                try clear hcz32_3
                                try clear hcz32_4
                                try clear hcz32_5
                                try clear hcz33_0
                                try clear hcz33_1
                                try clear hcz33_2
                                try clear hcz33_3
                                try clear hcz33_4
                                try clear hcz33_5
                                try clear hfz19_0
                                try clear hfz19_1
                                try clear hfz19_2
                                try clear hfz19_3
                                try clear hfz19_4
                                try clear hfz19_5
                                try clear hfz26_0
                                try clear hfz26_1
                                try clear hfz26_2
                                try clear hfz26_3
                                try clear hfz26_4
                                try clear hfz26_5
                                try clear hfz29_0
                                try clear hfz29_1
                                try clear hfz29_2
                                try clear hfz29_3
                                try clear hfz29_4
                                try clear hfz29_5
                                try clear hfz30_0
                                try clear hfz30_1
                                try clear hfz30_2
                                try clear hfz30_3
                                try clear hfz30_4
                                try clear hfz30_5
                                try clear hfz32_0
                                try clear hfz32_1
                                try clear hfz32_2
                                try clear hfz32_3
                                try clear hfz32_4
                                try clear hfz32_5
                                try clear hfz33_0
                                try clear hfz33_1
                                try clear hfz33_2
                                try clear hfz33_3
                                try clear hfz33_4
                                try clear hfz33_5
                                try clear hx159_0
                                try clear hx159_1
                                try clear hx159_2
                                try clear hx159_3
                                try clear hx159_4
                                try clear hx159_5
                                try clear hx164_0
                                try clear hx164_1
                                try clear hx164_2
                                try clear hx164_3
                                try clear hx164_4
                                try clear hx164_5
                                try clear p1
                                try clear p15
                                try clear p159
                                try clear p164
                                try clear p2
                                try clear q1
                                try clear q15
                                try clear q159
                                try clear q164
                                obtain ⟨kq, x46_22, rfl, HA, HJ22, HO_6, BK160, BK165, HB⟩ := hcut
                                cases kq with
                                | zero => exact absurd HA.out (by simp [spec_MergeLogs.j3])
                                | succ kj22 =>
                                  have H := HA.out
                                  clear HA
                                  simp only [spec_MergeLogs.j3] at H
                                  by_cases c34 : x46_22 = true
                                  · subst c34
                                    have H1 : (if ((rd_T53 l0 x31_3).f2).toList = ((rd_T53 l1 x25_2).f2).toList then (spec_MergeLogs.l1 kj22 l0 x6_2 true l1 (l1.length : Int) x25_2 l0 (l0.length : Int) (wrap64 (x31_3 + 1)) ((rd_T53 l1 x25_2).f0) ((rd_T53 l1 x25_2).f1) ((rd_T53 l1 x25_2).f2) ((rd_T53 l1 x25_2).f3.f0) ((rd_T53 l1 x25_2).f3.f1) ((rd_T53 l1 x25_2).f3.f2)) else (some (([] : List (S53)), false))) = some (r1, r2) := by rw [if_pos rfl] at H; exact H
                                    clear H
                                    have H := H1
                                    clear H1
                                    by_cases c35 : ((rd_T53 l0 x31_3).f2).toList = ((rd_T53 l1 x25_2).f2).toList
                                    · rw [if_pos c35] at H
                                      have c35b0 : (((rd_T53 l0 x31_3).f2).toList == ((rd_T53 l1 x25_2).f2).toList) = true := beq_iff_eq.mpr c35
                                      have c35b1 : (((rd_T53 l0 x31_3).f2).toList != ((rd_T53 l1 x25_2).f2).toList) = false := bne_eq_false_iff_eq.mpr c35
                                      clear c35
                                      have H' := Aside0.mk H
                                      clear H
                                      have hnb36 := NB165_160.out
                                      have hnc36 := NB160_165.out
                                      have hcz37_0 : wc.cell? ⟨gb165, 0, none⟩ = some (.int .i64 ((rd_T53 l0 x31_3).f0)) := (blk_cell BK165.out 0).trans rfl
                                      have hcz37_1 : wc.cell? ⟨gb165, 1, none⟩ = some (.string ((rd_T53 l0 x31_3).f1)) := (blk_cell BK165.out 1).trans rfl
                                      have hcz37_2 : wc.cell? ⟨gb165, 2, none⟩ = some (.string ((rd_T53 l0 x31_3).f2)) := (blk_cell BK165.out 2).trans rfl
                                      have hcz37_3 : wc.cell? ⟨gb165, 3, none⟩ = some (.int .i64 ((rd_T53 l0 x31_3).f3.f0)) := (blk_cell BK165.out 3).trans rfl
                                      have hcz37_4 : wc.cell? ⟨gb165, 4, none⟩ = some (.int .i64 ((rd_T53 l0 x31_3).f3.f1)) := (blk_cell BK165.out 4).trans rfl
                                      have hcz37_5 : wc.cell? ⟨gb165, 5, none⟩ = some (.bool ((rd_T53 l0 x31_3).f3.f2)) := (blk_cell BK165.out 5).trans rfl
                                      have hfz37_0 := blk_frozen BK165.out 0
                                      have hfz37_1 := blk_frozen BK165.out 1
                                      have hfz37_2 := blk_frozen BK165.out 2
                                      have hfz37_3 := blk_frozen BK165.out 3
                                      have hfz37_4 := blk_frozen BK165.out 4
                                      have hfz37_5 := blk_frozen BK165.out 5
                                      have hcz38_0 : wc.cell? ⟨gb160, 0, none⟩ = some (.int .i64 ((rd_T53 l1 x25_2).f0)) := (blk_cell BK160.out 0).trans rfl
                                      have hcz38_1 : wc.cell? ⟨gb160, 1, none⟩ = some (.string ((rd_T53 l1 x25_2).f1)) := (blk_cell BK160.out 1).trans rfl
                                      have hcz38_2 : wc.cell? ⟨gb160, 2, none⟩ = some (.string ((rd_T53 l1 x25_2).f2)) := (blk_cell BK160.out 2).trans rfl
                                      have hcz38_3 : wc.cell? ⟨gb160, 3, none⟩ = some (.int .i64 ((rd_T53 l1 x25_2).f3.f0)) := (blk_cell BK160.out 3).trans rfl
                                      have hcz38_4 : wc.cell? ⟨gb160, 4, none⟩ = some (.int .i64 ((rd_T53 l1 x25_2).f3.f1)) := (blk_cell BK160.out 4).trans rfl
                                      have hcz38_5 : wc.cell? ⟨gb160, 5, none⟩ = some (.bool ((rd_T53 l1 x25_2).f3.f2)) := (blk_cell BK160.out 5).trans rfl
                                      have hfz38_0 := blk_frozen BK160.out 0
                                      have hfz38_1 := blk_frozen BK160.out 1
                                      have hfz38_2 := blk_frozen BK160.out 2
                                      have hfz38_3 := blk_frozen BK160.out 3
                                      have hfz38_4 := blk_frozen BK160.out 4
                                      have hfz38_5 := blk_frozen BK160.out 5
                                      go_wp2
                                      go_roundg kj22
                                      case measure => have := HJ2.out; have := HK2.out; have := HK3.out; have := HJ22.out; omega
                                      case rel => exact ⟨(true), (wrap64 (x31_3 + 1)), (by first | rfl | (simp; done) | (simp [*]; done)), (by first | rfl | (simp; done) | (simp [*]; done)), H', ⟨by have := HJ2.out; have := HK2.out; have := HK3.out; have := HJ22.out; omega⟩, ⟨by (with_reducible repeat (first | apply Kd.R_alloc | apply Kd.R_drewN | apply Kd.R_drew)); exact Kd.R_mono HO_6.out (fun _ hk => hk.1)⟩, ⟨by (with_reducible repeat (first | refine blk_drewN ?_ _ | refine blk_drew ?_ | refine blk_alloc ?_ _)); exact BK160.out⟩, ⟨by repeat (first | (with_reducible first | exact HB.out | apply below_alloc | apply pw_below_drewN | apply below_drew1 | refine below_set ?_ GE160.out | refine below_set ?_ GE165.out) | exact HB.out)⟩⟩
                                    · rw [if_neg c35] at H
                                      have c35b0 : (((rd_T53 l0 x31_3).f2).toList == ((rd_T53 l1 x25_2).f2).toList) = false := beq_eq_false_iff_ne.mpr c35
                                      have c35b1 : (((rd_T53 l0 x31_3).f2).toList != ((rd_T53 l1 x25_2).f2).toList) = true := bne_iff_ne.mpr c35
                                      simp only [Option.some.injEq, Prod.mk.injEq] at H
                                      obtain ⟨rfl, rfl⟩ := H
                                      have hnb39 := NB165_160.out
                                      have hnc39 := NB160_165.out
                                      have hcz40_0 : wc.cell? ⟨gb165, 0, none⟩ = some (.int .i64 ((rd_T53 l0 x31_3).f0)) := (blk_cell BK165.out 0).trans rfl
                                      have hcz40_1 : wc.cell? ⟨gb165, 1, none⟩ = some (.string ((rd_T53 l0 x31_3).f1)) := (blk_cell BK165.out 1).trans rfl
                                      have hcz40_2 : wc.cell? ⟨gb165, 2, none⟩ = some (.string ((rd_T53 l0 x31_3).f2)) := (blk_cell BK165.out 2).trans rfl
                                      have hcz40_3 : wc.cell? ⟨gb165, 3, none⟩ = some (.int .i64 ((rd_T53 l0 x31_3).f3.f0)) := (blk_cell BK165.out 3).trans rfl
                                      have hcz40_4 : wc.cell? ⟨gb165, 4, none⟩ = some (.int .i64 ((rd_T53 l0 x31_3).f3.f1)) := (blk_cell BK165.out 4).trans rfl
                                      have hcz40_5 : wc.cell? ⟨gb165, 5, none⟩ = some (.bool ((rd_T53 l0 x31_3).f3.f2)) := (blk_cell BK165.out 5).trans rfl
                                      have hfz40_0 := blk_frozen BK165.out 0
                                      have hfz40_1 := blk_frozen BK165.out 1
                                      have hfz40_2 := blk_frozen BK165.out 2
                                      have hfz40_3 := blk_frozen BK165.out 3
                                      have hfz40_4 := blk_frozen BK165.out 4
                                      have hfz40_5 := blk_frozen BK165.out 5
                                      have hcz41_0 : wc.cell? ⟨gb160, 0, none⟩ = some (.int .i64 ((rd_T53 l1 x25_2).f0)) := (blk_cell BK160.out 0).trans rfl
                                      have hcz41_1 : wc.cell? ⟨gb160, 1, none⟩ = some (.string ((rd_T53 l1 x25_2).f1)) := (blk_cell BK160.out 1).trans rfl
                                      have hcz41_2 : wc.cell? ⟨gb160, 2, none⟩ = some (.string ((rd_T53 l1 x25_2).f2)) := (blk_cell BK160.out 2).trans rfl
                                      have hcz41_3 : wc.cell? ⟨gb160, 3, none⟩ = some (.int .i64 ((rd_T53 l1 x25_2).f3.f0)) := (blk_cell BK160.out 3).trans rfl
                                      have hcz41_4 : wc.cell? ⟨gb160, 4, none⟩ = some (.int .i64 ((rd_T53 l1 x25_2).f3.f1)) := (blk_cell BK160.out 4).trans rfl
                                      have hcz41_5 : wc.cell? ⟨gb160, 5, none⟩ = some (.bool ((rd_T53 l1 x25_2).f3.f2)) := (blk_cell BK160.out 5).trans rfl
                                      have hfz41_0 := blk_frozen BK160.out 0
                                      have hfz41_1 := blk_frozen BK160.out 1
                                      have hfz41_2 := blk_frozen BK160.out 2
                                      have hfz41_3 := blk_frozen BK160.out 3
                                      have hfz41_4 := blk_frozen BK160.out 4
                                      have hfz41_5 := blk_frozen BK160.out 5
                                      go_wp2
                                      go_ret2
                                      exact ⟨_, by first | rfl | (simp [errW_none, errW_some] <;> rfl) | (simp [*, errW_none, errW_some] <;> rfl), by first | exact Kd.R_nil _ _ _ _ _ | exact Kd.N_nil _ _ _ _ _ | exact Kd.V_nil _ _ _ _ _ | exact Kd.Q_nil _ _ _ _ _ | exact Kd.S_nil _ _ _ _ _, by repeat (first | (with_reducible first | exact HB.out | apply below_alloc | apply pw_below_drewN | apply below_drew1 | refine below_set ?_ GE160.out | refine below_set ?_ GE165.out) | exact HB.out)⟩
                                  · replace c34 := Bool.eq_false_iff.mpr c34
                                    subst c34
                                    have H1 : (spec_MergeLogs.l1 kj22 l0 x6_2 x9_3 l1 (l1.length : Int) x25_2 l0 (l0.length : Int) (wrap64 (x31_3 + 1)) ((rd_T53 l1 x25_2).f0) ((rd_T53 l1 x25_2).f1) ((rd_T53 l1 x25_2).f2) ((rd_T53 l1 x25_2).f3.f0) ((rd_T53 l1 x25_2).f3.f1) ((rd_T53 l1 x25_2).f3.f2)) = some (r1, r2) := by rw [if_neg (show ¬ (false = true) by decide)] at H; exact H
                                    clear H
                                    have H := H1
                                    clear H1
                                    have H' := Aside0.mk H
                                    clear H
                                    go_wp2
                                    go_roundg kj22
                                    case measure => have := HJ2.out; have := HK2.out; have := HK3.out; have := HJ22.out; omega
                                    case rel => exact ⟨(x9_3), (wrap64 (x31_3 + 1)), (by first | rfl | (simp; done) | (simp [*]; done)), (by first | rfl | (simp; done) | (simp [*]; done)), H', ⟨by have := HJ2.out; have := HK2.out; have := HK3.out; have := HJ22.out; omega⟩, ⟨by (with_reducible repeat (first | apply Kd.R_alloc | apply Kd.R_drewN | apply Kd.R_drew)); exact Kd.R_mono HO_6.out (fun _ hk => hk.1)⟩, ⟨by (with_reducible repeat (first | refine blk_drewN ?_ _ | refine blk_drew ?_ | refine blk_alloc ?_ _)); exact BK160.out⟩, ⟨by repeat (first | (with_reducible first | exact HB.out | apply below_alloc | apply pw_below_drewN | apply below_drew1 | refine below_set ?_ GE160.out | refine below_set ?_ GE165.out) | exact HB.out)⟩⟩
                            · rw [if_neg c22] at H
                              exact absurd H (by simp)
                          · rw [if_neg c21] at H
                            exact absurd H (by simp)
                        · rw [if_neg c20] at H
                          have c20b0 : decide (x31_3 < (l0.length : Int)) = false := decide_eq_false c20
                          clear c20
                          by_cases c42 : x9_3 = true
                          · subst c42
                            have H1 : (spec_MergeLogs.l0 k3 l0 x6_2 l1 (l1.length : Int) (wrap64 (x25_2 + 1))) = some (r1, r2) := by rw [if_pos rfl] at H; exact H
                            clear H
                            have H := H1
                            clear H1
                            have H' := Aside0.mk H
                            clear H
                            go_wp2
                            go_roundg k3
                            case measure => have := HJ2.out; have := HK2.out; have := HK3.out; omega
                            case rel => exact ⟨(x6_2), (wrap64 (x25_2 + 1)), (by first | rfl | (simp; done) | (simp [*]; done)), H', ⟨by have := HJ2.out; have := HK2.out; have := HK3.out; omega⟩, ⟨by (with_reducible repeat (first | apply Kd.R_alloc | apply Kd.R_drewN | apply Kd.R_drew)); exact Kd.R_mono HO_6.out (fun _ hk => trivial)⟩, ⟨by repeat (first | (with_reducible first | exact HB.out | apply below_alloc | apply pw_below_drewN | apply below_drew1 | refine below_set ?_ GE160.out) | exact HB.out)⟩⟩
                          · replace c42 := Bool.eq_false_iff.mpr c42
                            subst c42
                            have H1 : (if x6_2.length < 2199023255552 then (spec_MergeLogs.l0 k3 l0 (x6_2 ++ [(⟨((rd_T53 l1 x25_2).f0), ((rd_T53 l1 x25_2).f1), ((rd_T53 l1 x25_2).f2), (⟨((rd_T53 l1 x25_2).f3.f0), ((rd_T53 l1 x25_2).f3.f1), ((rd_T53 l1 x25_2).f3.f2)⟩ : S51)⟩ : S53)]) l1 (l1.length : Int) (wrap64 (x25_2 + 1))) else (none)) = some (r1, r2) := by rw [if_neg (show ¬ (false = true) by decide)] at H; exact H
                            clear H
                            have H := H1
                            clear H1
                            by_cases c43 : x6_2.length < 2199023255552
                            · rw [if_pos c43] at H
                              have LMc43 := Aside0.mk c43
                              clear c43
                              obtain ⟨y161, hy161⟩ : ∃ y_ : List (S53), y_ = (x6_2 ++ [(⟨((rd_T53 l1 x25_2).f0), ((rd_T53 l1 x25_2).f1), ((rd_T53 l1 x25_2).f2), (⟨((rd_T53 l1 x25_2).f3.f0), ((rd_T53 l1 x25_2).f3.f1), ((rd_T53 l1 x25_2).f3.f2)⟩ : S51)⟩ : S53)]) := ⟨_, rfl⟩
                              replace H : (spec_MergeLogs.l0 k3 l0 y161 l1 (l1.length : Int) (wrap64 (x25_2 + 1))) = some (r1, r2) := by first | (rw [hy161]; with_reducible exact H) | (have H2_ := (Option.bind_some _ _).symm.trans H; rw [hy161]; with_reducible exact H2_) | (have H2_ := (Option.bind_some _ _).symm.trans H; with_reducible exact H2_) | with_reducible exact H | (rw [hy161]; exact H) | exact H
                              have Ny161 := Aside0.mk hy161
                              clear hy161
                              have H' := Aside0.mk H
                              clear H
                              have hcz44_0 : wr.cell? ⟨gb160, 0, none⟩ = some (.int .i64 ((rd_T53 l1 x25_2).f0)) := (blk_cell BK160.out 0).trans rfl
                              have hcz44_1 : wr.cell? ⟨gb160, 1, none⟩ = some (.string ((rd_T53 l1 x25_2).f1)) := (blk_cell BK160.out 1).trans rfl
                              have hcz44_2 : wr.cell? ⟨gb160, 2, none⟩ = some (.string ((rd_T53 l1 x25_2).f2)) := (blk_cell BK160.out 2).trans rfl
                              have hcz44_3 : wr.cell? ⟨gb160, 3, none⟩ = some (.int .i64 ((rd_T53 l1 x25_2).f3.f0)) := (blk_cell BK160.out 3).trans rfl
                              have hcz44_4 : wr.cell? ⟨gb160, 4, none⟩ = some (.int .i64 ((rd_T53 l1 x25_2).f3.f1)) := (blk_cell BK160.out 4).trans rfl
                              have hcz44_5 : wr.cell? ⟨gb160, 5, none⟩ = some (.bool ((rd_T53 l1 x25_2).f3.f2)) := (blk_cell BK160.out 5).trans rfl
                              have hfz44_0 := blk_frozen BK160.out 0
                              have hfz44_1 := blk_frozen BK160.out 1
                              have hfz44_2 := blk_frozen BK160.out 2
                              have hfz44_3 := blk_frozen BK160.out 3
                              have hfz44_4 := blk_frozen BK160.out 4
                              have hfz44_5 := blk_frozen BK160.out 5
                              go_wp2_with (first | ((with_reducible refine gate_builtin (b := .append) (xs := #[.tmp 55, .tmp 57]) rfl ?_); at_builtin; refine Kd.R_append k53 (w0 := w) w.heap.size rfl (.tmp 55) (.tmp 57) 25 53 (.agg #[(.int .i64 0), (.string ⟨#[]⟩), (.string ⟨#[]⟩), (.int .i64 0), (.int .i64 0), (.bool false)]) 64 rfl Tryd.underlying25 info53 rfl (by decide) (by omega) u6 x6_2 (⟨((rd_T53 l1 x25_2).f0), ((rd_T53 l1 x25_2).f1), ((rd_T53 l1 x25_2).f2), (⟨((rd_T53 l1 x25_2).f3.f0), ((rd_T53 l1 x25_2).f3.f1), ((rd_T53 l1 x25_2).f3.f2)⟩ : S51)⟩ : S53) [.int .i64 ((rd_T53 l1 x25_2).f0), .string ((rd_T53 l1 x25_2).f1), .string ((rd_T53 l1 x25_2).f2), .int .i64 ((rd_T53 l1 x25_2).f3.f0), .int .i64 ((rd_T53 l1 x25_2).f3.f1), .bool ((rd_T53 l1 x25_2).f3.f2)] (fun k_ => k_ ≠ gb160) (fun _ => False) rfl rfl ?aP (fun _ hk => hk.elim) ?aF ?aO ?aB ?aS ?aL ?_; (case aP => exact k53_mkM _ _ _ (⟨((rd_T53 l1 x25_2).f0), ((rd_T53 l1 x25_2).f1), ((rd_T53 l1 x25_2).f2), (⟨((rd_T53 l1 x25_2).f3.f0), ((rd_T53 l1 x25_2).f3.f1), ((rd_T53 l1 x25_2).f3.f2)⟩ : S51)⟩ : S53)); (case aB => exact (by repeat (first | (with_reducible first | exact HB.out | apply below_alloc | apply pw_below_drewN | apply below_drew1 | refine below_set ?_ GE160.out) | exact HB.out))); (case aF => exact (fun k_ hk => Kd.freshB (g := gb160) (o := .cells #[.int .i64 ((rd_T53 l1 x25_2).f0), .string ((rd_T53 l1 x25_2).f1), .string ((rd_T53 l1 x25_2).f2), .int .i64 ((rd_T53 l1 x25_2).f3.f0), .int .i64 ((rd_T53 l1 x25_2).f3.f1), .bool ((rd_T53 l1 x25_2).f3.f2)] 53 (0, 0)) (by (with_reducible repeat (first | refine blk_drewN ?_ _ | refine blk_drew ?_ | refine blk_alloc ?_ _)); exact BK160.out) k_ hk)); (case aO => exact (by (with_reducible repeat (first | apply Kd.R_alloc | apply Kd.R_drewN | apply Kd.R_drew)); exact HO_6.out)); (case aS => exact (below_size (by repeat (first | (with_reducible first | exact HB.out | apply below_alloc | apply pw_below_drewN | apply below_drew1 | refine below_set ?_ GE160.out) | exact HB.out)))); (case aL => have := LMc43.out; omega); intro v162 w45 ho hb hg hat; rw [← Ny161.out] at ho; have n0_ := Aside0.mk (blk_grown (g := gb160) (o := .cells #[.int .i64 ((rd_T53 l1 x25_2).f0), .string ((rd_T53 l1 x25_2).f1), .string ((rd_T53 l1 x25_2).f2), .int .i64 ((rd_T53 l1 x25_2).f3.f0), .int .i64 ((rd_T53 l1 x25_2).f3.f1), .bool ((rd_T53 l1 x25_2).f3.f2)] 53 (0, 0)) (by (with_reducible repeat (first | refine blk_drewN ?_ _ | refine blk_drew ?_ | refine blk_alloc ?_ _)); exact BK160.out) hg (Kd.R_away HO_6.out (fun _ hk => hk))); have n1_ := Aside0.mk (hb); have n2_ := Aside0.mk (ho); clear BK160; clear HB; clear HO_6; have BK160 := n0_; have HB := n1_; have HO163 := n2_; clear n0_ n1_ n2_; clear ho hb hg hat))
                              go_roundg k3
                              case measure => have := HJ2.out; have := HK2.out; have := HK3.out; omega
                              case rel => exact ⟨(y161), (wrap64 (x25_2 + 1)), (by first | rfl | (simp; done) | (simp [*]; done)), H', ⟨by have := HJ2.out; have := HK2.out; have := HK3.out; omega⟩, ⟨by (with_reducible repeat (first | apply Kd.R_alloc | apply Kd.R_drewN | apply Kd.R_drew)); exact Kd.R_mono HO163.out (fun _ hk => trivial)⟩, ⟨by repeat (first | (with_reducible first | exact HB.out | apply below_alloc | apply pw_below_drewN | apply below_drew1 | refine below_set ?_ GE160.out) | exact HB.out)⟩⟩
                            · rw [if_neg c43] at H
                              exact absurd H (by simp)
                  · rw [if_neg c17] at H
                    exact absurd H (by simp)
                · rw [if_neg c16] at H
                  exact absurd H (by simp)
              · rw [if_neg c15] at H
                have c15b0 : decide (x25_2 < (l1.length : Int)) = false := decide_eq_false c15
                clear c15
                replace H := Option.bind_eq_some_iff.mp H
                obtain ⟨t158, A460, H⟩ := H
                replace H : (if t158 = true then (some (x6_2, true)) else (some (([] : List (S53)), false))) = some (r1, r2) := H
                have A46 := Aside0.mk A460
                clear A460
                by_cases c47 : t158 = true
                · subst c47
                  have H1 : (some (x6_2, true)) = some (r1, r2) := by rw [if_pos rfl] at H; exact H
                  clear H
                  have H := H1
                  clear H1
                  simp only [Option.some.injEq, Prod.mk.injEq] at H
                  obtain ⟨rfl, rfl⟩ := H
                  obtain ⟨Ao48, co48, eo48⟩ := Kd.R_slice HO_6.out
                  subst eo48
                  go_wp2_with (first | ((with_reducible refine gate_callee (f := 11) rfl ?_); refine goesL_ (some 61) rfl rfl Tryd.func11 (by kernel_rfl) rfl #[.slice Ao48 x6_2.length co48] rfl (by (try simp only [List.map_toArray, List.map_cons, List.map_nil]); first | done | rfl | (simp only [List.length_drop, List.length_take]; rfl)) ?_; (with_reducible refine (spec_GoodLog.calls k2 _ _ x6_2 true _ ?side1 ?side2 A46.out).mono ?_); (case side1 => repeat (first | exact (Kd.R_reads' HO_6.out).2.2 | (with_reducible refine Kd.C_alloc ?_ _) | (with_reducible refine Kd.C_drewN ?_ _) | (with_reducible refine Kd.C_drew ?_))); (case side2 => exact (Kd.R_reads' HO_6.out).2.1); rintro e w49 ⟨rfl, hb⟩; refine ⟨_, rfl, ?_⟩; have n0_ := Aside0.mk (Kd.R_below (by (with_reducible repeat (first | apply Kd.R_alloc | apply Kd.R_drewN | apply Kd.R_drew)); exact HO_6.out) hb); have n1_ := Aside0.mk (below_step (by repeat (first | (with_reducible first | exact HB.out | apply below_alloc | apply pw_below_drewN | apply below_drew1) | exact HB.out)) hb); clear HO_6; clear HB; have HO_6 := n0_; have HB := n1_; clear n0_ n1_; (try clear hb); (try clear hb2); (try clear hk); (try clear hi)))
                  go_ret2
                  exact ⟨_, by first | rfl | (simp [errW_none, errW_some] <;> rfl) | (simp [*, errW_none, errW_some] <;> rfl), by (with_reducible repeat (first | apply Kd.R_alloc | apply Kd.R_drewN | apply Kd.R_drew)); exact HO_6.out, by repeat (first | (with_reducible first | exact HB.out | apply below_alloc | apply pw_below_drewN | apply below_drew1) | exact HB.out)⟩
                · replace c47 := Bool.eq_false_iff.mpr c47
                  subst c47
                  have H1 : (some (([] : List (S53)), false)) = some (r1, r2) := by rw [if_neg (show ¬ (false = true) by decide)] at H; exact H
                  clear H
                  have H := H1
                  clear H1
                  simp only [Option.some.injEq, Prod.mk.injEq] at H
                  obtain ⟨rfl, rfl⟩ := H
                  obtain ⟨Ao50, co50, eo50⟩ := Kd.R_slice HO_6.out
                  subst eo50
                  go_wp2_with (first | ((with_reducible refine gate_callee (f := 11) rfl ?_); refine goesL_ (some 61) rfl rfl Tryd.func11 (by kernel_rfl) rfl #[.slice Ao50 x6_2.length co50] rfl (by (try simp only [List.map_toArray, List.map_cons, List.map_nil]); first | done | rfl | (simp only [List.length_drop, List.length_take]; rfl)) ?_; (with_reducible refine (spec_GoodLog.calls k2 _ _ x6_2 false _ ?side1 ?side2 A46.out).mono ?_); (case side1 => repeat (first | exact (Kd.R_reads' HO_6.out).2.2 | (with_reducible refine Kd.C_alloc ?_ _) | (with_reducible refine Kd.C_drewN ?_ _) | (with_reducible refine Kd.C_drew ?_))); (case side2 => exact (Kd.R_reads' HO_6.out).2.1); rintro e w51 ⟨rfl, hb⟩; refine ⟨_, rfl, ?_⟩; have n0_ := Aside0.mk (Kd.R_below (by (with_reducible repeat (first | apply Kd.R_alloc | apply Kd.R_drewN | apply Kd.R_drew)); exact HO_6.out) hb); have n1_ := Aside0.mk (below_step (by repeat (first | (with_reducible first | exact HB.out | apply below_alloc | apply pw_below_drewN | apply below_drew1) | exact HB.out)) hb); clear HO_6; clear HB; have HO_6 := n0_; have HB := n1_; clear n0_ n1_; (try clear hb); (try clear hb2); (try clear hk); (try clear hi)))
                  go_ret2
                  exact ⟨_, by first | rfl | (simp [errW_none, errW_some] <;> rfl) | (simp [*, errW_none, errW_some] <;> rfl), by first | exact Kd.R_nil _ _ _ _ _ | exact Kd.N_nil _ _ _ _ _ | exact Kd.V_nil _ _ _ _ _ | exact Kd.Q_nil _ _ _ _ _ | exact Kd.S_nil _ _ _ _ _, by repeat (first | (with_reducible first | exact HB.out | apply below_alloc | apply pw_below_drewN | apply below_drew1) | exact HB.out)⟩
        · rw [if_neg c11] at H
          exact absurd H (by simp)

end Go.Proofs.YtaenobdphjindaaDoor.PFnExactMergeLogs
