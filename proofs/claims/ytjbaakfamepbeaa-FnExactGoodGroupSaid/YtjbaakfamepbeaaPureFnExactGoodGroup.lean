/- The pure statement of the law FnExactGoodGroup: at every group and number the printed law answers true. -/
import Derived.Test.YtjbaakfamepbeaaSayFnExactGoodGroup
import Derived.Test.YtjbaakfamepbeaaAid
namespace Go.Proofs.Ytjbaakfamepbeaa.Pure
open Go.RowKit Go.Proofs.Ytjbaakfamepbeaa.PFnExactGoodGroup Go.Proofs.YtjbaakfamepbeaaW.PrintWords Go.Proofs.YtjbaakfamepbeaaW.PrintLast Go.Proofs.Ytjbaakfamepbeaa.Aid
set_option linter.unusedVariables false
set_option linter.unusedSimpArgs false

theorem in_f (a b c : Int) : impl_in.f a b c = some (decide (b ≤ a ∧ a ≤ c)) := by
  unfold impl_in.f
  by_cases h : a ≥ b
  · rw [if_pos h]; simp [h]
  · rw [if_neg h]; simp [h]
theorem l1In_f (a b c : Int) : spec_l1In.f a b c = some (decide (b ≤ a ∧ a ≤ c)) := by
  unfold spec_l1In.f
  by_cases h : a ≥ b
  · rw [if_pos h]; simp [h]
  · rw [if_neg h]; simp [h]

theorem szIntS_f (l : List Int) (a : Int) (hl : l.length ≤ 140737488355328) (h0 : 0 ≤ a) (h1 : a ≤ 1048576) : laws_szIntS.f l a = some (if a < l.length then -1 else a - l.length) := by
  have w : wrap64 (a - (l.length : Int)) = a - l.length := wrap_of (by omega) (by omega)
  unfold laws_szIntS.f
  rw [w]
  by_cases h : a < (l.length : Int)
  · rw [if_pos (by omega), if_pos h]
  · rw [if_neg (by omega), if_neg h]
theorem toIntS_ev (l : List Int) (hl : l.length ≤ 1048576) : Ev (fun k => laws_toIntS.f k l) l := by
  have key := fill_loop (fun k xs i => laws_toIntS.l0 k l xs i) l (fun x => x) (fun k xs => by simp [laws_toIntS.l0]) (fun n x xs hx hn hl' H => ?_) 0
  · have e : l.map (fun x => x) = l := by simp
    rw [e] at key
    refine Ev.congr (fun k => ?_) key
    simp only [laws_toIntS.f]
    rw [if_pos (by omega), if_pos (by omega)]
    simp
  · refine Ev.step (fun k => ?_) H
    simp only [laws_toIntS.l0]
    rw [if_pos (by omega), if_pos (by omega), if_pos (by omega), wrap_nat (by omega), rd_nat hx]
    simp
theorem eqIntS_ev (l : List Int) (hl : l.length ≤ 140737488355328) : Ev (fun k => laws_eqIntS.f k l l) true := by
  have key := eq_loop (fun k i => laws_eqIntS.l0 k l l i) l l (fun x y => decide (x = y)) rfl (fun k => by simp [laws_eqIntS.l0]) (fun n x y r hx hy hn _ he H => ?_) (fun n x y hx hy hn _ he => ?_)
  · rw [zip_self_all (fun x y : Int => decide (x = y)) (by simp) l] at key
    refine Ev.congr (fun k => ?_) key
    simp [laws_eqIntS.f]
  · refine Ev.step (fun k => ?_) H
    simp only [laws_eqIntS.l0]
    rw [if_pos (by omega), if_pos (by omega), if_pos (by omega), wrap_nat (by omega)]
    simp
  · rw [hx] at hy
    obtain rfl := Option.some.inj hy
    simp at he

theorem nodes_f (n : Int) : spec_l8Nodes.f n = some (decide (1 ≤ n ∧ n ≤ 12)) := by
  simp [spec_l8Nodes.f, l1In_f]
/-- The impl's loop answers, and where n is good the spec's answers the same; where it is not, the spec's answers false. -/
theorem loops (l : List Int) (n : Int) (hl : l.length ≤ 1048576) : ∀ i : Nat, i ≤ l.length →
    ∃ r, Ev (fun k => impl_areRising.l0 k l n l (l.length : Int) (i : Int)) r ∧ Ev (fun k => spec_GoodGroup.l0 k n l (l.length : Int) (i : Int) l) (r && decide (1 ≤ n ∧ n ≤ 12)) := by
  intro i hi
  induction hd : l.length - i generalizing i with
  | zero =>
    have e : i = l.length := by omega
    subst e
    refine ⟨true, Ev.step (fun k => ?_) (ev_some _), Ev.step (fun k => ?_) (ev_some _)⟩
    · simp only [impl_areRising.l0]; rw [if_neg (by omega)]
    · simp only [spec_GoodGroup.l0]; rw [if_neg (by omega), nodes_f]; simp
  | succ d ih =>
    have hlt : i < l.length := by omega
    obtain ⟨r, h1, h2⟩ := ih (i + 1) (by omega) (by omega)
    have hx : rd l (i : Int) = l[i] := rd_nat (List.getElem?_eq_getElem hlt)
    by_cases hin : 0 ≤ l[i] ∧ l[i] ≤ wrap64 (n - 1)
    · by_cases h0 : i = 0
      · subst h0
        refine ⟨r, Ev.step (fun k => ?_) h1, Ev.step (fun k => ?_) h2⟩
        · simp only [impl_areRising.l0]; rw [if_pos (by omega), if_pos (by omega), if_pos (by omega), in_f, hx, wrap_nat (by omega)]; simp [hin]
        · simp only [spec_GoodGroup.l0]; rw [if_pos (by omega), if_pos (by omega), if_pos (by omega), l1In_f, hx, wrap_nat (by omega)]; simp [hin]
      · have w : wrap64 ((i : Int) - 1) = ((i - 1 : Nat) : Int) := by rw [wrap_of (by omega) (by omega)]; omega
        by_cases hr : rd l ((i - 1 : Nat) : Int) ≥ l[i]
        · refine ⟨false, Ev.step (fun k => ?_) (ev_some _), Ev.step (fun k => ?_) (ev_some _)⟩
          · simp only [impl_areRising.l0]; rw [if_pos (by omega), if_pos (by omega), if_pos (by omega), in_f, hx, wrap_nat (by omega), w]; simp only [hin, and_self, decide_true, Option.bind_some, if_true]; rw [if_pos (by omega), if_pos (by omega), if_pos (by omega), if_pos hr]
          · simp only [spec_GoodGroup.l0]; rw [if_pos (by omega), if_pos (by omega), if_pos (by omega), l1In_f, hx, wrap_nat (by omega), w]; simp only [hin, and_self, decide_true, Option.bind_some, if_true]; rw [if_pos (by omega), if_pos (by omega), if_pos (by omega), if_pos hr]; simp
        · refine ⟨r, Ev.step (fun k => ?_) h1, Ev.step (fun k => ?_) h2⟩
          · simp only [impl_areRising.l0]; rw [if_pos (by omega), if_pos (by omega), if_pos (by omega), in_f, hx, wrap_nat (by omega), w]; simp only [hin, and_self, decide_true, Option.bind_some, if_true]; rw [if_pos (by omega), if_pos (by omega), if_pos (by omega), if_neg hr]
          · simp only [spec_GoodGroup.l0]; rw [if_pos (by omega), if_pos (by omega), if_pos (by omega), l1In_f, hx, wrap_nat (by omega), w]; simp only [hin, and_self, decide_true, Option.bind_some, if_true]; rw [if_pos (by omega), if_pos (by omega), if_pos (by omega), if_neg hr]
    · refine ⟨false, Ev.step (fun k => ?_) (ev_some _), Ev.step (fun k => ?_) (ev_some _)⟩
      · simp only [impl_areRising.l0]; rw [if_pos (by omega), if_pos (by omega), if_pos (by omega), in_f, hx]; simp [hin]
      · simp only [spec_GoodGroup.l0]; rw [if_pos (by omega), if_pos (by omega), if_pos (by omega), l1In_f, hx]; simp [hin]
theorem FnExactGoodGroup : laws_FnExactGoodGroup.Pure := by
  intro l n hb _ _
  have hl : l.length ≤ 140737488355328 := by omega
  apply Ev.rounds
  unfold laws_FnExactGoodGroup.f
  simp only [laws_szGroup.f, szIntS_f l 1048576 hl (by omega) (by omega), Option.bind_some]
  by_cases hs : (1048576 : Int) < (l.length : Int)
  · simp only [if_pos hs]
    exact ev_some _
  · simp only [if_neg hs]
    have h2 : ¬ (1048576 - (l.length : Int) < 0) := by omega
    simp only [if_neg h2, Option.bind_some]
    have hl' : l.length ≤ 1048576 := by omega
    have hto : Ev (fun k => laws_toGroup.f k l) l := by
      unfold laws_toGroup.f
      exact Ev.bind (toIntS_ev l hl') (ev_some _)
    obtain ⟨r, h3, h4⟩ := loops l n hl' 0 (by omega)
    refine Ev.bind hto ?_
    refine Ev.bind (a := r && decide (1 ≤ n ∧ n ≤ 12)) (by simpa [spec_GoodGroup.f] using h4) ?_
    refine Ev.bind hto ?_
    have hi : Ev (fun k => impl_GoodGroup.f k l n) (r && decide (1 ≤ n ∧ n ≤ 12)) := by
      unfold impl_GoodGroup.f impl_isGroup.f
      refine Ev.bind ?_ (ev_some _)
      simp only [in_f, Option.bind_some]
      by_cases hn : 1 ≤ n ∧ n ≤ 12
      · simp only [hn, and_self, decide_true, if_true, Bool.and_true]
        exact Ev.bind (by simpa [impl_areRising.f] using h3) (ev_some _)
      · simp only [hn, decide_false, Bool.and_false, Bool.false_eq_true, if_false]
        exact ev_some _
    refine Ev.bind hi ?_
    simp only [bne_self_eq_false, Bool.false_eq_true, if_false]
    refine Ev.bind hto ?_
    have he : Ev (fun k => laws_eqGroup.f k l l) true := by
      unfold laws_eqGroup.f
      exact Ev.bind (eqIntS_ev l hl) (by simpa using ev_some true)
    refine Ev.bind he ?_
    simpa using ev_some true

end Go.Proofs.Ytjbaakfamepbeaa.Pure
