/- The functional machine: slices.Delete at []int, in its form. -/
import Derived.Test.YtfiaplpfimfgiaaDoorFmCp
import Derived.Shelf.Slices.Delete
set_option autoImplicit true
set_option linter.unusedVariables false
set_option linter.unusedSimpArgs false
set_option linter.unusedSectionVars false
namespace Go.Fm
variable [Strict]
open Go.Proofs Go.Shelf Go.Sort Go.RowKit
def gvDelInt (l : List Int) (i j : Int) : Option (List Int) := if 0 ≤ i ∧ i ≤ j ∧ j ≤ (List.length l : Int) ∧ 0 < List.length l then some (l.take i.toNat ++ l.drop j.toNat) else none
def delIntFn (ty : Nat) : Fn := ⟨[.own ty (.int .i64), .val (.int .i64), .val (.int .i64)], .own ty (.int .i64), fun v => gvDelInt v.1 v.2.1 v.2.2.1, []⟩
theorem Con.delInt {P : Program} {ρ : Ren} {G : World → Prop} (L : Lays2.n23 P ρ) {f : Nat} (hf : ρ.f 23 = f) (ty : Nat) : Con P G f (delIntFn ty) := by
  intro v r w args bl X h ha hbl hX hG
  obtain ⟨l, i, j, ⟨⟩⟩ := v
  obtain ⟨u, us, xs, b2, rfl, hb, how, hrows, u1, us1, rfl, h1, u2, us2, rfl, h2, rfl, rfl⟩ := ha
  dsimp only [delIntFn] at r h how hrows h1 h2 ⊢
  unfold gvDelInt at h
  split at h
  case isFalse => cases h
  case isTrue hc0 =>
  obtain ⟨hi0, hij, hjl, hpos⟩ := hc0
  obtain rfl := Option.some.inj h
  obtain ⟨i, rfl⟩ := Int.eq_ofNat_of_zero_le hi0
  obtain ⟨j, rfl⟩ := Int.eq_ofNat_of_zero_le (Int.le_trans hi0 hij)
  rw [h1.int_inv, h2.int_inv]
  have hxs := int_rows hrows
  subst hxs
  have hwd : width (.int .i64) = 1 := rfl
  rw [hwd] at how
  have how0 := how
  rcases how.2 with ⟨rfl, h0⟩ | ⟨g, cap, cur, rfl, _, _, hnc, hcm, _, _⟩
  · omega
  · obtain ⟨hH, hlt⟩ := own_holds how0
    have hij' : i ≤ j := by omega
    have hjl' : j ≤ l.length := by omega
    have hc := Any.slices_Delete_int L g 0 cap i j l w hH hnc (by simp only [maxLen] at hcm; omega) hij' hjl'
    rw [hf] at hc
    refine hc.mono ?_
    rintro e w' ⟨rfl, q, rfl⟩
    have hb' : bl = [g] := by rw [hb]; rfl
    subst hb'
    have e1 : (Int.ofNat i).toNat = i := rfl
    have e2 : (Int.ofNat j).toNat = j := rfl
    have hln : (l.take i ++ l.drop j).length = l.length - (j - i) := by simp; omega
    have hlen : (l.take i ++ l.drop j ++ List.replicate (j - i) (0 : Int)).length = l.length := by simp; omega
    have hown := put_owns (n := q) (os := #[]) hlen rfl how0
    have hgrow : ∀ W : World, grow W #[] = W := fun W => by simp [grow]
    rw [hgrow] at hown
    rw [hlen] at hown
    have hcut := owns_cut hown (Nat.sub_le l.length (j - i))
    have htk : List.take ((l.length - (j - i)) * 1) (List.map (Value.int .i64) (l.take i ++ l.drop j ++ List.replicate (j - i) (0 : Int))) = (l.take i ++ l.drop j).map (Value.int .i64) := by
      rw [Nat.mul_one, ← List.map_take, ← hln, List.take_left]
    rw [htk] at hcut
    refine ⟨_, rfl, ?_, [g], ⟨_, (l.take i ++ l.drop j).map (Value.int .i64), rfl, rfl, ?_, rows_one (k := .int .i64) rfl⟩, by simp, fun b hb => .inr hb⟩
    · have := put_frame (enc := Value.int .i64) (w := w) (n := q) (g := g) (d := (l.take i ++ l.drop j ++ List.replicate (j - i) (0 : Int)).toArray) (os := #[])
      rw [hgrow] at this
      exact ⟨this.os, this.tape, this.output, this.size, fun b hb hne => this.block b hb (by simpa using hne)⟩
    · show World.ownsRow _ _ _ _ _ (l.take i ++ l.drop j).length _
      rw [hln]; exact hcut
end Go.Fm
