/- FnExactMergeClock, by the functional machine. -/
import Derived.Test.YtjbaakfamepbeaaFmXFnExactMergeClock
set_option maxRecDepth 100000
set_option linter.unusedVariables false
open Go Go.Fm Go.RowKit
namespace Go.Proofs.Ytjbaakfamepbeaa.Fms
/-- loop.example/g00218/laws.szIntS -/
noncomputable def laws_szIntS (k : Nat) (a0 : (List Int)) (a1 : Int) : Option Int := D63.F E63 k (a0, a1, ())
theorem laws_szIntS_eq (k : Nat) (a0 : (List Int)) (a1 : Int) : laws_szIntS k a0 a1 = (if ((wrap64 (a1 - (Nat.cast (List.length a0) : Int))) < 0) then (some (-1)) else (some (wrap64 (a1 - (Nat.cast (List.length a0) : Int))))) := by kernel_rfl
/-- loop.example/g00218/laws.szClock -/
noncomputable def laws_szClock (k : Nat) (a0 : K0.T) (a1 : Int) : Option Int := D50.F E50 k (a0, a1, ())
theorem laws_szClock_eq (k : Nat) (a0 : K0.T) (a1 : Int) : laws_szClock k a0 a1 = (Option.bind (laws_szIntS k a0 a1) fun t0 => (if (t0 < 0) then (some (-1)) else (some t0))) := by kernel_rfl
noncomputable def laws_toIntS_h3 (k : Nat) (t0_ : (List Int)) (t3_ : (List Int)) (t4_ : Int) : Option (List Int) := D35.H E35 k 3 (t0_, t3_, t4_)
/-- loop.example/g00218/laws.toIntS -/
noncomputable def laws_toIntS (k : Nat) (a0 : (List Int)) : Option (List Int) := D35.F E35 k (a0, ())
theorem laws_toIntS_eq (k : Nat) (a0 : (List Int)) : laws_toIntS k a0 = (if ((Nat.cast (List.length a0) : Int) = (Nat.cast (List.length a0) : Int)) then (if ((Nat.cast (List.length a0) : Int) ≤ (Nat.cast 17592186044416 : Int)) then (laws_toIntS_h3 k a0 (List.replicate (Int.toNat (Nat.cast (List.length a0) : Int)) (0 : Int)) (0 : Int)) else none) else none) := by kernel_rfl
theorem laws_toIntS_h3_eq (k : Nat) (t0_ : (List Int)) (t3_ : (List Int)) (t4_ : Int) : laws_toIntS_h3 (k + 1) t0_ t3_ t4_ = (if (t4_ < (Nat.cast (List.length t0_) : Int)) then (if (0 ≤ t4_) then (if (t4_ < (Nat.cast (List.length t0_) : Int)) then (if (0 ≤ t4_) then (if (t4_ < (Nat.cast (List.length t3_) : Int)) then (laws_toIntS_h3 k t0_ (List.set t3_ (Int.toNat t4_) (rdT (.int .i64) t0_ t4_)) (wrap64 (t4_ + 1))) else none) else none) else none) else none) else (some t3_)) := by kernel_rfl
/-- loop.example/g00218/laws.toClock -/
noncomputable def laws_toClock (k : Nat) (a0 : K0.T) : Option (List Int) := D52.F E52 k (a0, ())
theorem laws_toClock_eq (k : Nat) (a0 : K0.T) : laws_toClock k a0 = (Option.bind (laws_toIntS k a0) fun t0 => (some t0)) := by kernel_rfl
noncomputable def laws_eqIntS_h4 (k : Nat) (t0_ : (List Int)) (t1_ : (List Int)) (t5_ : Int) : Option Bool := D37.H E37 k 4 (t0_, t1_, t5_)
/-- loop.example/g00218/laws.eqIntS -/
noncomputable def laws_eqIntS (k : Nat) (a0 : (List Int)) (a1 : (List Int)) : Option Bool := D37.F E37 k (a0, a1, ())
theorem laws_eqIntS_eq (k : Nat) (a0 : (List Int)) (a1 : (List Int)) : laws_eqIntS k a0 a1 = (if (¬ ((Nat.cast (List.length a0) : Int) = (Nat.cast (List.length a1) : Int))) then (some false) else (laws_eqIntS_h4 k a0 a1 (0 : Int))) := by kernel_rfl
theorem laws_eqIntS_h4_eq (k : Nat) (t0_ : (List Int)) (t1_ : (List Int)) (t5_ : Int) : laws_eqIntS_h4 (k + 1) t0_ t1_ t5_ = (if (t5_ < (Nat.cast (List.length t0_) : Int)) then (if (0 ≤ t5_) then (if (t5_ < (Nat.cast (List.length t0_) : Int)) then (if (0 ≤ t5_) then (if (t5_ < (Nat.cast (List.length t1_) : Int)) then (if (¬ ((rdT (.int .i64) t0_ t5_) = (rdT (.int .i64) t1_ t5_))) then (some false) else (laws_eqIntS_h4 k t0_ t1_ (wrap64 (t5_ + 1)))) else none) else none) else none) else none) else (some true)) := by kernel_rfl
/-- loop.example/g00218/laws.eqClock -/
noncomputable def laws_eqClock (k : Nat) (a0 : K0.T) (a1 : K0.T) : Option Bool := D54.F E54 k (a0, a1, ())
theorem laws_eqClock_eq (k : Nat) (a0 : K0.T) (a1 : K0.T) : laws_eqClock k a0 a1 = (Option.bind (laws_eqIntS k a0 a1) fun t0 => (if ((not t0) = true) then (some false) else (some true))) := by kernel_rfl
/-- loop.example/g00218/spec.l1In -/
noncomputable def spec_l1In (k : Nat) (a0 : Int) (a1 : Int) (a2 : Int) : Option Bool := D64.F E64 k (a0, a1, a2, ())
theorem spec_l1In_eq (k : Nat) (a0 : Int) (a1 : Int) (a2 : Int) : spec_l1In k a0 a1 a2 = (if (a1 ≤ a0) then (some (decide (a0 ≤ a2))) else (some false)) := by kernel_rfl
noncomputable def spec_l2Clock_h2 (k : Nat) (t1_ : K0.T) (t6_ : (List Int)) (t7_ : Int) (t8_ : Int) : Option Bool := D77.H E77 k 2 (t1_, t6_, t7_, t8_)
/-- loop.example/g00218/spec.l2Clock -/
noncomputable def spec_l2Clock (k : Nat) (a0 : K0.T) : Option Bool := D77.F E77 k (a0, ())
theorem spec_l2Clock_eq (k : Nat) (a0 : K0.T) : spec_l2Clock k a0 = (spec_l2Clock_h2 k a0 a0 (Nat.cast (List.length a0) : Int) (0 : Int)) := by kernel_rfl
theorem spec_l2Clock_h2_eq (k : Nat) (t1_ : K0.T) (t6_ : (List Int)) (t7_ : Int) (t8_ : Int) : spec_l2Clock_h2 (k + 1) t1_ t6_ t7_ t8_ = (if (t8_ < t7_) then (if (0 ≤ t8_) then (if (t8_ < (Nat.cast (List.length t6_) : Int)) then (Option.bind (spec_l1In k (rdT (.int .i64) t6_ t8_) (0 : Int) (1000000 : Int)) fun t0 => (if ((not t0) = true) then (some false) else (spec_l2Clock_h2 k t1_ t6_ t7_ (wrap64 (t8_ + 1))))) else none) else none) else (some (decide ((Nat.cast (List.length t1_) : Int) = 6)))) := by kernel_rfl
noncomputable def spec_l2Merge_h3 (k : Nat) (t5_ : (List Int)) (t11_ : (List Int)) (t12_ : Int) (t13_ : Int) : Option (List Int) := D79.H E79 k 3 (t5_, t11_, t12_, t13_)
/-- loop.example/g00218/spec.l2Merge -/
noncomputable def spec_l2Merge (k : Nat) (a0 : (List Int)) (a1 : (List Int)) : Option (List Int) := D79.F E79 k (a0, a1, ())
theorem spec_l2Merge_eq (k : Nat) (a0 : (List Int)) (a1 : (List Int)) : spec_l2Merge k a0 a1 = (if (((0 : Nat) + (List.length a0)) ≤ 17592186044416) then (spec_l2Merge_h3 k (([]) ++ a0) a1 (Nat.cast (List.length a1) : Int) (0 : Int)) else none) := by kernel_rfl
theorem spec_l2Merge_h3_eq (k : Nat) (t5_ : (List Int)) (t11_ : (List Int)) (t12_ : Int) (t13_ : Int) : spec_l2Merge_h3 (k + 1) t5_ t11_ t12_ t13_ = (if (t13_ < t12_) then (if (0 ≤ t13_) then (if (t13_ < (Nat.cast (List.length t11_) : Int)) then (if (0 ≤ t13_) then (if (t13_ < (Nat.cast (List.length t5_) : Int)) then (if ((rdT (.int .i64) t5_ t13_) < (rdT (.int .i64) t11_ t13_)) then (if (0 ≤ t13_) then (if (t13_ < (Nat.cast (List.length t5_) : Int)) then (spec_l2Merge_h3 k (List.set t5_ (Int.toNat t13_) (rdT (.int .i64) t11_ t13_)) t11_ t12_ (wrap64 (t13_ + 1))) else none) else none) else (spec_l2Merge_h3 k t5_ t11_ t12_ (wrap64 (t13_ + 1)))) else none) else none) else none) else none) else (some t5_)) := by kernel_rfl
/-- loop.example/g00218/spec.MergeClock -/
noncomputable def spec_MergeClock (k : Nat) (a0 : K0.T) (a1 : K0.T) : Option (K0.T × Bool) := D55.F E55 k (a0, a1, ())
theorem spec_MergeClock_eq (k : Nat) (a0 : K0.T) (a1 : K0.T) : spec_MergeClock k a0 a1 = (Option.bind (spec_l2Clock k a0) fun t0 => (if ((not t0) = true) then (some (([]), false)) else (Option.bind (spec_l2Clock k a1) fun t1 => (if ((not t1) = true) then (some (([]), false)) else (Option.bind (spec_l2Merge k a0 a1) fun t2 => (some (t2, true))))))) := by kernel_rfl
noncomputable def impl_greater_h3 (k : Nat) (t1_ : (List Int)) (t5_ : (List Int)) (t9_ : (List Int)) (t10_ : Int) (t11_ : Int) : Option (List Int) := D72.H E72 k 3 (t1_, t5_, t9_, t10_, t11_)
/-- loop.example/g00218/impl.greater -/
noncomputable def impl_greater (k : Nat) (a0 : (List Int)) (a1 : (List Int)) : Option (List Int) := D72.F E72 k (a0, a1, ())
theorem impl_greater_eq (k : Nat) (a0 : (List Int)) (a1 : (List Int)) : impl_greater k a0 a1 = (impl_greater_h3 k a1 ([]) a0 (Nat.cast (List.length a0) : Int) (0 : Int)) := by kernel_rfl
theorem impl_greater_h3_eq (k : Nat) (t1_ : (List Int)) (t5_ : (List Int)) (t9_ : (List Int)) (t10_ : Int) (t11_ : Int) : impl_greater_h3 (k + 1) t1_ t5_ t9_ t10_ t11_ = (if (t11_ < t10_) then (if (0 ≤ t11_) then (if (t11_ < (Nat.cast (List.length t9_) : Int)) then (if (0 ≤ t11_) then (if (t11_ < (Nat.cast (List.length t1_) : Int)) then (if (((List.length t5_) + (List.length (List.cons (if ((rdT (.int .i64) t1_ t11_) > (rdT (.int .i64) t9_ t11_)) then (rdT (.int .i64) t1_ t11_) else (rdT (.int .i64) t9_ t11_)) ([])))) ≤ 17592186044416) then (impl_greater_h3 k t1_ (t5_ ++ (List.cons (if ((rdT (.int .i64) t1_ t11_) > (rdT (.int .i64) t9_ t11_)) then (rdT (.int .i64) t1_ t11_) else (rdT (.int .i64) t9_ t11_)) ([]))) t9_ t10_ (wrap64 (t11_ + 1))) else none) else none) else none) else none) else none) else (some t5_)) := by kernel_rfl
/-- loop.example/g00218/impl.in -/
noncomputable def impl_in (k : Nat) (a0 : Int) (a1 : Int) (a2 : Int) : Option Bool := D69.F E69 k (a0, a1, a2, ())
theorem impl_in_eq (k : Nat) (a0 : Int) (a1 : Int) (a2 : Int) : impl_in k a0 a1 a2 = (if (a1 ≤ a0) then (some (decide (a0 ≤ a2))) else (some false)) := by kernel_rfl
/-- loop.example/g00218/impl.isClock$1 -/
noncomputable def impl_isClock_1 (k : Nat) (a0 : Int) : Option Bool := D84.F E84 k (a0, ())
theorem impl_isClock_1_eq (k : Nat) (a0 : Int) : impl_isClock_1 k a0 = (Option.bind (impl_in k a0 (0 : Int) (1000000 : Int)) fun t0 => (some (not t0))) := by kernel_rfl
noncomputable def slices_IndexFunc_h2 (k : Nat) (t0_ : (List Int)) (t1_ : (Kind.T (.clo 84 .unit))) (t7_ : Int) (t8_ : Int) : Option Int := D83.H E83 k 2 (t0_, t1_, t7_, t8_)
/-- slices.IndexFunc[[]int,int] -/
noncomputable def slices_IndexFunc (k : Nat) (a0 : (List Int)) (a1 : (Kind.T (.clo 84 .unit))) : Option Int := D83.F E83 k (a0, a1, ())
theorem slices_IndexFunc_eq (k : Nat) (a0 : (List Int)) (a1 : (Kind.T (.clo 84 .unit))) : slices_IndexFunc k a0 a1 = (slices_IndexFunc_h2 k a0 a1 (Nat.cast (List.length a0) : Int) (0 : Int)) := by kernel_rfl
theorem slices_IndexFunc_h2_eq (k : Nat) (t0_ : (List Int)) (t1_ : (Kind.T (.clo 84 .unit))) (t7_ : Int) (t8_ : Int) : slices_IndexFunc_h2 (k + 1) t0_ t1_ t7_ t8_ = (if (t8_ < t7_) then (if (0 ≤ t8_) then (if (t8_ < (Nat.cast (List.length t0_) : Int)) then (Option.bind (impl_isClock_1 k (rdT (.int .i64) t0_ t8_)) fun t0 => (if (t0 = true) then (some t8_) else (slices_IndexFunc_h2 k t0_ t1_ t7_ (wrap64 (t8_ + 1))))) else none) else none) else (some (-1))) := by kernel_rfl
/-- slices.ContainsFunc[[]int,int] -/
noncomputable def slices_ContainsFunc (k : Nat) (a0 : (List Int)) (a1 : (Kind.T (.clo 84 .unit))) : Option Bool := D71.F E71 k (a0, a1, ())
theorem slices_ContainsFunc_eq (k : Nat) (a0 : (List Int)) (a1 : (Kind.T (.clo 84 .unit))) : slices_ContainsFunc k a0 a1 = (Option.bind (slices_IndexFunc k a0 a1) fun t0 => (some (decide (0 ≤ t0)))) := by kernel_rfl
/-- loop.example/g00218/impl.isClock -/
noncomputable def impl_isClock (k : Nat) (a0 : K0.T) : Option Bool := D78.F E78 k (a0, ())
theorem impl_isClock_eq (k : Nat) (a0 : K0.T) : impl_isClock k a0 = (if ((Nat.cast (List.length a0) : Int) = 6) then (Option.bind (slices_ContainsFunc k a0 ()) fun t0 => (some (not t0))) else (some false)) := by kernel_rfl
/-- loop.example/g00218/impl.MergeClock -/
noncomputable def impl_MergeClock (k : Nat) (a0 : K0.T) (a1 : K0.T) : Option ((List Int) × Bool) := D56.F E56 k (a0, a1, ())
theorem impl_MergeClock_eq (k : Nat) (a0 : K0.T) (a1 : K0.T) : impl_MergeClock k a0 a1 = (Option.bind (impl_isClock k a0) fun t0 => (if ((not t0) = true) then (some (([]), false)) else (Option.bind (impl_isClock k a1) fun t1 => (if ((not t1) = true) then (some (([]), false)) else (Option.bind (impl_greater k a0 a1) fun t2 => (some (t2, true))))))) := by kernel_rfl
noncomputable def laws_markIntS_h2 (k : Nat) (t0_ : (List Int)) (t1_ : Int) (t5_ : Int) : Option (List Int × Int) := D38.H E38 k 2 (t0_, t1_, t5_)
/-- loop.example/g00218/laws.markIntS -/
noncomputable def laws_markIntS (k : Nat) (a0 : (List Int)) (a1 : Int) : Option (List Int × Int) := D38.F E38 k (a0, a1, ())
theorem laws_markIntS_eq (k : Nat) (a0 : (List Int)) (a1 : Int) : laws_markIntS k a0 a1 = (laws_markIntS_h2 k a0 a1 (0 : Int)) := by kernel_rfl
theorem laws_markIntS_h2_eq (k : Nat) (t0_ : (List Int)) (t1_ : Int) (t5_ : Int) : laws_markIntS_h2 (k + 1) t0_ t1_ t5_ = (if (t5_ < (Nat.cast (List.length t0_) : Int)) then (if (0 ≤ t5_) then (if (t5_ < (Nat.cast (List.length t0_) : Int)) then (laws_markIntS_h2 k (List.set t0_ (Int.toNat t5_) t1_) (wrap64 (t1_ + 1)) (wrap64 (t5_ + 1))) else none) else none) else (some (t0_, t1_))) := by kernel_rfl
/-- loop.example/g00218/laws.markClock -/
noncomputable def laws_markClock (k : Nat) (a0 : (List Int)) (a1 : Int) : Option (List Int × Int) := D57.F E57 k (a0, a1, ())
theorem laws_markClock_eq (k : Nat) (a0 : (List Int)) (a1 : Int) : laws_markClock k a0 a1 = (Option.bind (laws_markIntS k a0 a1) fun t0 => (some (t0.1, t0.2))) := by kernel_rfl
noncomputable def laws_heldIntS_h2 (k : Nat) (t0_ : (List Int)) (t1_ : Int) (t5_ : Int) : Option Int := D39.H E39 k 2 (t0_, t1_, t5_)
/-- loop.example/g00218/laws.heldIntS -/
noncomputable def laws_heldIntS (k : Nat) (a0 : (List Int)) (a1 : Int) : Option Int := D39.F E39 k (a0, a1, ())
theorem laws_heldIntS_eq (k : Nat) (a0 : (List Int)) (a1 : Int) : laws_heldIntS k a0 a1 = (laws_heldIntS_h2 k a0 a1 (0 : Int)) := by kernel_rfl
theorem laws_heldIntS_h2_eq (k : Nat) (t0_ : (List Int)) (t1_ : Int) (t5_ : Int) : laws_heldIntS_h2 (k + 1) t0_ t1_ t5_ = (if (t5_ < (Nat.cast (List.length t0_) : Int)) then (if (0 ≤ t5_) then (if (t5_ < (Nat.cast (List.length t0_) : Int)) then (if (¬ ((rdT (.int .i64) t0_ t5_) = t1_)) then (some (-1)) else (laws_heldIntS_h2 k t0_ (wrap64 (t1_ + 1)) (wrap64 (t5_ + 1)))) else none) else none) else (some t1_)) := by kernel_rfl
/-- loop.example/g00218/laws.heldClock -/
noncomputable def laws_heldClock (k : Nat) (a0 : K0.T) (a1 : Int) : Option Int := D58.F E58 k (a0, a1, ())
theorem laws_heldClock_eq (k : Nat) (a0 : K0.T) (a1 : Int) : laws_heldClock k a0 a1 = (Option.bind (laws_heldIntS k a0 a1) fun t0 => (if (t0 < 0) then (some (-1)) else (some t0))) := by kernel_rfl
/-- loop.example/g00218/laws.FnExactMergeClock -/
noncomputable def laws_FnExactMergeClock (k : Nat) (a0 : K0.T) (a1 : K0.T) : Option Bool := D14.F E14 k (a0, a1, ())
theorem laws_FnExactMergeClock_eq (k : Nat) (a0 : K0.T) (a1 : K0.T) : laws_FnExactMergeClock k a0 a1 = (Option.bind (laws_szClock k a0 (1048576 : Int)) fun t0 => (if (t0 < 0) then (some true) else (Option.bind (laws_szClock k a1 t0) fun t1 => (if (t1 < 0) then (some true) else (Option.bind (laws_toClock k a0) fun t2 => (Option.bind (laws_toClock k a1) fun t3 => (Option.bind (spec_MergeClock k t2 t3) fun t4 => (Option.bind (laws_toClock k a0) fun t5 => (Option.bind (laws_toClock k a1) fun t6 => (Option.bind (impl_MergeClock k t5 t6) fun t7 => (Option.bind (laws_eqClock k t7.1 t4.1) fun t8 => (if ((not t8) = true) then (some false) else (if (¬ (t7.2 = t4.2)) then (some false) else (Option.bind (laws_toClock k a0) fun t9 => (Option.bind (laws_eqClock k t5 t9) fun t10 => (if ((not t10) = true) then (some false) else (Option.bind (laws_toClock k a1) fun t11 => (Option.bind (laws_eqClock k t6 t11) fun t12 => (if ((not t12) = true) then (some false) else (Option.bind (laws_markClock k t5 (1 : Int)) fun t13 => (Option.bind (laws_markClock k t6 t13.2) fun t14 => (if (t14.2 < 0) then (some false) else (Option.bind (laws_eqClock k t7.1 t4.1) fun t15 => (if ((not t15) = true) then (some false) else (if (¬ (t7.2 = t4.2)) then (some false) else (Option.bind (laws_markClock k t7.1 (1 : Int)) fun t16 => (Option.bind (laws_heldClock k t16.1 (1 : Int)) fun t17 => (if (t17 < 0) then (some false) else (if (¬ (t17 = t16.2)) then (some false) else (Option.bind (laws_toClock k a0) fun t18 => (Option.bind (laws_toClock k a1) fun t19 => (Option.bind (impl_MergeClock k t18 t19) fun t20 => (Option.bind (laws_eqClock k t20.1 t4.1) fun t21 => (if ((not t21) = true) then (some false) else (if (¬ (t20.2 = t4.2)) then (some false) else (Option.bind (laws_heldClock k t16.1 (1 : Int)) fun t22 => (if (t22 < 0) then (some false) else (if (¬ (t22 = t16.2)) then (some false) else (some true))))))))))))))))))))))))))))))))))))))) := by kernel_rfl
end Go.Proofs.Ytjbaakfamepbeaa.Fms
