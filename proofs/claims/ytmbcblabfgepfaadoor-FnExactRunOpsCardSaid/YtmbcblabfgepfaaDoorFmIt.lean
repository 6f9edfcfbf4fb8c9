/- The functional machine: strconv.Itoa, in its form; a table that the world holds. -/
import Derived.Test.YtmbcblabfgepfaaDoorFmOpn
import Derived.Test.YtmbcblabfgepfaaDoorFmGv
import Derived.Shelf.Strconv.Itoa3
import Derived.Lib.LaidTab
import Derived.MakeChecks
set_option autoImplicit true
set_option linter.unusedVariables false
set_option linter.unusedSimpArgs false
set_option linter.unusedSectionVars false
namespace Go.Fm
variable [Strict]
open Go.Proofs Go.Shelf Go.Sort Go.RowKit
def gvItoa (n : Int) : ByteArray := ⟨(Lib.itoa n).toArray⟩
def itoaFn : Fn := ⟨[.val (.int .i64)], .val .str, fun v => if -9223372036854775808 ≤ (v.1 : Int) ∧ (v.1 : Int) ≤ 9223372036854775807 then some (gvItoa v.1) else none, []⟩
/-- the table that Itoa reads -/
def HasTab (P : Program) (w : World) : Prop := Lib.TabIs P w "internal/strconv.uint64pow10" .u64 Lib.pow10Tab
theorem Con.itoa {P : Program} {ρ : Ren} (L : LaysM.n171 P ρ) {f : Nat} (hf : ρ.f 171 = f) : Con P (HasTab P) f itoaFn := by
  intro v r w args bl X h ha hbl hX hG
  obtain ⟨u0, us, rfl, h0, rfl, rfl⟩ := ha
  have hi := h0.int_inv
  rw [hi]
  dsimp only [itoaFn] at h r ⊢
  split at h
  · rename_i hr
    have hc := Any.strconv_Itoa L v.1 hr.1 hr.2 w (hG w (Frame0.refl w _))
    rw [hf] at hc
    refine hc.mono ?_
    rintro e w' ⟨rfl, k, os, rfl⟩
    obtain rfl := Option.some.inj h
    refine ⟨_, rfl, ⟨rfl, ⟨rfl, fun _ => Nat.le_add_right _ _⟩, rfl, ?_, fun b hb _ => ?_⟩, [], ⟨rfl, _, rfl, Reg.str _⟩, List.nodup_nil, by simp⟩
    · show w.heap.size ≤ (w.heap ++ os).size
      simp
    · show (w.heap ++ os)[b]? = _
      exact Array.getElem?_append_left hb
  · cases h
/-- a function that calls itself: no fuel -/
theorem Con.none {P : Program} {G : World → Prop} {f : Nat} {ps : List PS} {res : RS} {sh : List Nat} : Con P G f ⟨ps, res, fun _ => none, sh⟩ := fun v r w args bl X h => by cases h
open Opn in
theorem Opn.lawG {G : World → Prop} {f : Nat} {ps : List PS} {P : Program} {g : ArgsT ps → Option Bool} (hc : Con P G f ⟨ps, .val .bool, g, []⟩) {w : World} (hG : ∀ w', Frame0 w (· ∈ ([] : List Nat)) w' → G w') {v : ArgsT ps} {args : List Value} (h : g v = some true) (ha : ArgsOK w (fun b => b ∈ ([] : List Nat) ∨ False) ps v args []) :
    Calls P f args.toArray w fun e w' => e = .returned (.bool true) ∧ Below w.heap.size w w' := by
  refine (hc v true w args [] (fun _ => False) h ha List.nodup_nil (fun b hb => hb.elim) (fun w' hf => hG w' hf)).mono ?_
  rintro e w' ⟨u, rfl, hf, bl', hro, _, _⟩
  obtain ⟨_, u', hu, hr⟩ := hro
  simp only [List.cons.injEq, and_true] at hu
  subst hu
  rw [hr.bool_inv]
  exact ⟨rfl, hf.os, hf.tape.1, hf.output, hf.size, fun b hb => hf.block b hb (by simp)⟩
theorem laidTail {P : Program} {w : World} {a : String × DataW Unit} {r : List (String × DataW Unit)} (h : laidMet P (a :: r) w) : laidMet P r w := by
  obtain ⟨n, d⟩ := a
  obtain ⟨ps, ⟨g, t, cs, fuel, p, q, h1, h2, h3, h4, h5, rfl⟩, hn, hc⟩ := h
  exact ⟨q, h5, (List.nodup_append.1 hn).2.1, fun b off hm => hc b off (List.mem_append.2 (Or.inr hm))⟩
/-- the row's own condition gives the table (third of its list), and what is run changes no old block -/
theorem hasTab_third {P : Program} {W : World} {a b : String × DataW Unit} {rest : List (String × DataW Unit)} {g : Nat} {t e : TypeId}
    (hg : P.globalNamed "internal/strconv.uint64pow10" = some g) (hty : (P.globals[g]?).map (·.type) = some t) (ht : P.underlying t = some (.array 20 e)) (he : P.underlying e = some (.int .u64)) (hce : P.cellsOf e = 1) (hct : P.cellsOf t = 20)
    (hp : ((a :: b :: ("internal/strconv.uint64pow10", Lib.tabData .u64 Lib.pow10Tab) :: rest).all fun x => x.2.handleName?.isNone) = true)
    (h : laidMetH P (a :: b :: ("internal/strconv.uint64pow10", Lib.tabData .u64 Lib.pow10Tab) :: rest) W) : ∀ w', Frame0 W (· ∈ ([] : List Nat)) w' → HasTab P w' := by
  rw [MakeChecks.laidMetH_plain _ _ _ hp] at h
  have h3 := Lib.tabIs_of_head hg hty ht he hce hct (laidTail (laidTail h))
  intro w' hf
  unfold HasTab Lib.TabIs at *
  unfold World.var? at *
  rw [hg] at h3 ⊢
  simp only [Option.bind_some] at h3 ⊢
  have hlt : g < W.heap.size := by
    by_cases hl : g < W.heap.size
    · exact hl
    · rw [Array.getElem?_eq_none (by omega)] at h3; cases h3
  rw [hf.block g hlt (by simp)]
  exact h3
end Go.Fm
