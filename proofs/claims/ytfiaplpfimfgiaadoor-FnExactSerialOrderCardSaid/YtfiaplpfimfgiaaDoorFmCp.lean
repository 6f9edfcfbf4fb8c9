/- The functional machine: slices.Compact at []int, in its form. -/
import Derived.Test.YtfiaplpfimfgiaaDoorFmGv
import Derived.Shelf.Slices.CompactI
import Derived.Lib.RowBridge
set_option autoImplicit true
set_option linter.unusedVariables false
set_option linter.unusedSimpArgs false
set_option linter.unusedSectionVars false
namespace Go.Fm
variable [Strict]
open Go.Proofs Go.Shelf Go.Sort Go.RowKit
def gvCompactInt (l : List Int) : List Int := Lib.compact l
def compactIntFn (ty : Nat) : Fn := ⟨[.own ty (.int .i64)], .own ty (.int .i64), fun v => some (gvCompactInt v.1), []⟩
theorem owns_cut {w : World} {ty : TypeId} {size g n cap m : Nat} {xs : List Value} (h : w.ownsRow 0 ty size (.slice (some ⟨g, 0, none⟩) n cap) n xs) (hm : m ≤ n) : w.ownsRow 0 ty size (.slice (some ⟨g, 0, none⟩) m cap) m (xs.take (m * size)) := by
  have hle := Nat.mul_le_mul_right size hm
  rcases h.2 with ⟨h1, _⟩ | ⟨g', cap', cur, h1, h0, h2, h3, h6, h4, h5⟩
  · simp at h1
  · simp only [Value.slice.injEq, Option.some.injEq, Addr.mk.injEq] at h1
    obtain ⟨⟨rfl, _, _⟩, _, rfl⟩ := h1
    refine ⟨by rw [List.length_take, h.1]; omega, .inr ⟨g, cap, cur, rfl, h0, h2, by omega, h6, h4, ?_⟩⟩
    rw [← h5, List.take_take, Nat.min_eq_left hle]
theorem Con.compactInt {P : Program} {ρ : Ren} {G : World → Prop} (L : Lays2.n20 P ρ) {f : Nat} (hf : ρ.f 20 = f) (ty : Nat) : Con P G f (compactIntFn ty) := by
  intro v r w args bl X h ha hbl hX hG
  obtain ⟨l, ⟨⟩⟩ := v
  obtain ⟨u, us, xs, b2, rfl, hb, how, hrows, rfl, rfl⟩ := ha
  dsimp only [compactIntFn] at r h how hrows ⊢
  obtain rfl := Option.some.inj h
  have hxs := int_rows hrows
  subst hxs
  have hwd : width (.int .i64) = 1 := rfl
  rw [hwd] at how
  have how0 := how
  unfold gvCompactInt
  rcases how.2 with ⟨rfl, h0⟩ | ⟨g, cap, cur, rfl, _, _, hnc, hcm, _, _⟩
  · have hl : l = [] := List.eq_nil_of_length_eq_zero h0
    subst hl
    have hc := Any.slices_Compact_int_empty L none 0 w
    rw [hf] at hc
    refine hc.mono ?_
    rintro e w' ⟨rfl, rfl⟩
    have hm : Lib.compact ([] : List Int) = [] := rfl
    refine ⟨_, rfl, Frame0.refl _ _, [], ⟨.slice none 0 0, [], rfl, rfl, ?_, ?_⟩, List.nodup_nil, by simp⟩
    · show World.ownsRow _ _ _ _ _ (Lib.compact ([] : List Int)).length []
      rw [hm]; exact World.ownsRow_nil _ _ _ _
    · show Rows _ [] (Lib.compact ([] : List Int))
      rw [hm]; rfl
  · obtain ⟨hH, hlt⟩ := own_holds how0
    have hc := Any.slices_Compact_int L g 0 cap l w hH (by simp only [maxLen] at hcm; omega) hnc
    rw [hf] at hc
    refine hc.mono ?_
    rintro e w' ⟨rfl, q, rfl⟩
    have hb' : bl = [g] := by rw [hb]; rfl
    subst hb'
    have hle := Lib.compact_length_le l
    have hlen : (Lib.compact l ++ List.replicate (l.length - (Lib.compact l).length) (0 : Int)).length = l.length := by simp; omega
    have hown := put_owns (n := q) (os := #[]) hlen rfl how0
    have hgrow : ∀ W : World, grow W #[] = W := fun W => by simp [grow]
    rw [hgrow] at hown
    rw [hlen] at hown
    have hcut := owns_cut hown hle
    have htk : List.take ((Lib.compact l).length * 1) (List.map (Value.int .i64) (Lib.compact l ++ List.replicate (l.length - (Lib.compact l).length) (0 : Int))) = (Lib.compact l).map (Value.int .i64) := by
      rw [Nat.mul_one, ← List.map_take, List.take_left]
    rw [htk] at hcut
    refine ⟨_, rfl, ?_, [g], ⟨_, (Lib.compact l).map (Value.int .i64), rfl, rfl, hcut, rows_one (k := .int .i64) rfl⟩, by simp, fun b hb => .inr hb⟩
    have := put_frame (enc := Value.int .i64) (w := w) (n := q) (g := g) (d := (Lib.compact l ++ List.replicate (l.length - (Lib.compact l).length) (0 : Int)).toArray) (os := #[])
    rw [hgrow] at this
    exact ⟨this.os, this.tape, this.output, this.size, fun b hb hne => this.block b hb (by simpa using hne)⟩
end Go.Fm
