/- The functional machine: contracts of the library's, in its form. -/
import Derived.Test.YtmbcblabfgepfaaDoorFmZ
import Derived.Shelf.Sort.Plain
import Derived.Shelf.Slices.In.SortNone
import Derived.Shelf.Small.Strs
set_option autoImplicit true
set_option linter.unusedVariables false
set_option linter.unusedSimpArgs false
set_option linter.unusedSectionVars false
namespace Go.Fm
variable [Strict]
open Go.Proofs Go.Shelf Go.Sort Go.RowKit

/-- rows of cells of one kind -/
theorem rows_one {w : World} {O : Nat → Prop} {k : Kind} (hk : elemK k = true) : ∀ {l : List k.T}, Rows (Cells w O k) (l.map (oneV k)) l
  | [] => rfl
  | x :: l => by
    refine ⟨[oneV k x], l.map (oneV k), rfl, ?_, rows_one hk⟩
    cases k <;> simp [elemK] at hk <;> rfl
theorem rows_one_inv {w : World} {O : Nat → Prop} {k : Kind} (hk : elemK k = true) : ∀ {xs : List Value} {l : List k.T}, Rows (Cells w O k) xs l → xs = l.map (oneV k)
  | xs, [], h => h
  | xs, x :: l, ⟨c, ds, h1, h2, h3⟩ => by
    rw [h1, rows_one_inv hk h3]
    have : c = [oneV k x] := by cases k <;> simp [elemK] at hk <;> exact h2
    rw [this]; rfl
theorem int_rows {w : World} {O : Nat → Prop} {xs : List Value} {l : List Int} (h : Rows (Cells w O (.int .i64)) xs l) : xs = l.map (Value.int .i64) := rows_one_inv (k := .int .i64) rfl h
/-- the cells of a row of our own -/
theorem own_holds {α : Type} [Inhabited α] {enc : α → Value} {w : World} {ty : TypeId} {g n cap : Nat} {l : List α} (h : w.ownsRow 0 ty 1 (.slice (some ⟨g, 0, none⟩) n cap) l.length (l.map enc)) : Holds enc w g 0 l.toArray ∧ g < w.heap.size := by
  rcases h.2 with ⟨h1, _⟩ | ⟨g', cap', cur, h1, _, h2, h3, _, h4, h5⟩
  · simp at h1
  · simp only [Value.slice.injEq, Option.some.injEq, Addr.mk.injEq] at h1
    obtain ⟨⟨rfl, _, _⟩, rfl, rfl⟩ := h1
    refine ⟨fun j hj => ?_, lt_of_heap h2⟩
    simp only [List.size_toArray] at hj
    have e1 : cur[j]? = some (enc l[j]) := by
      have h6 := congrArg (fun z : List Value => z[j]?) h5
      simp only [List.getElem?_take, List.getElem?_map, Nat.mul_one] at h6
      rw [if_pos hj, List.getElem?_eq_getElem hj] at h6
      simpa using h6
    constructor
    · unfold World.cell?
      simp only [h2]
      simp [e1, hj]
    · unfold World.frozen?
      simp [h2]
theorem put_frame {α : Type} [Inhabited α] {enc : α → Value} {w : World} {n g : Nat} {d : Array α} {os : Array Obj} : Frame0 w (fun b => b = g) (grow (putRow enc (Go.Sort.ahead w n) g 0 d) os) := by
  refine ⟨rfl, ⟨rfl, fun _ => Nat.le_add_right _ _⟩, rfl, ?_, fun b hb hne => ?_⟩
  · show w.heap.size ≤ ((w.heap.modify g _) ++ os).size
    simp
  · show ((w.heap.modify g _) ++ os)[b]? = _
    rw [Array.getElem?_append_left (by simpa using hb), Array.getElem?_modify, if_neg (fun e => hne e.symm)]
theorem put_owns {α : Type} [Inhabited α] {enc : α → Value} {w : World} {ty : TypeId} {n g k cap : Nat} {l l' : List α} {os : Array Obj} (hl : l'.length = l.length) (hk : k = l.length) (h : w.ownsRow 0 ty 1 (.slice (some ⟨g, 0, none⟩) k cap) l.length (l.map enc)) :
    (grow (putRow enc (Go.Sort.ahead w n) g 0 l'.toArray) os).ownsRow 0 ty 1 (.slice (some ⟨g, 0, none⟩) k cap) l'.length (l'.map enc) := by
  rcases h.2 with ⟨h1, _⟩ | ⟨g', cap', cur, h1, h0, h2, h3, h6, h4, h5⟩
  · simp at h1
  · simp only [Value.slice.injEq, Option.some.injEq, Addr.mk.injEq] at h1
    obtain ⟨⟨rfl, _, _⟩, _, rfl⟩ := h1
    refine ⟨by simp, .inr ⟨g, cap, putCells enc 0 l'.toArray cur, by rw [hl, hk], h0, ?_, by omega, h6, by simp [putCells, h4], ?_⟩⟩
    · have hlt := lt_of_heap h2
      show ((w.heap.modify g _) ++ os)[g]? = _
      rw [Array.getElem?_append_left (by simpa using hlt), Array.getElem?_modify, if_pos rfl, h2]
      rfl
    · apply List.ext_getElem?
      intro j
      simp only [List.getElem?_take, Nat.mul_one, List.getElem?_map]
      by_cases hj : j < l'.length
      · rw [if_pos hj]
        have hjc : j < cur.size := by omega
        simp [putCells, hj, hjc]
      · rw [if_neg hj, List.getElem?_eq_none (by omega)]; rfl
def gvSortInt (l : List Int) : Option (List Int × Unit) := if List.length l < 4611686018427387904 then some (List.mergeSort l (fun x y : Int => decide (x ≤ y)), ()) else none
def sortIntFn (ty : Nat) : Fn := ⟨[.own ty (.int .i64)], .tup (.back 0 ty (.int .i64) .nil), fun v => gvSortInt v.1, []⟩
theorem Con.sortInt {P : Program} {ρ : Ren} {G : World → Prop} (L : Lays.n189 P ρ) {f : Nat} (hf : ρ.f 189 = f) (ty : Nat) :
    Con P G f (sortIntFn ty) := by
  intro v r w args bl X h ha hbl hX hG
  obtain ⟨l, ⟨⟩⟩ := v
  obtain ⟨u, us, xs, b2, rfl, hb, how, hrows, rfl, rfl⟩ := ha
  dsimp only [sortIntFn, gvSortInt] at r h how hrows ⊢
  split at h
  · rename_i hsz
    obtain rfl := Option.some.inj h
    have hxs := int_rows hrows
    subst hxs
    have hwd : width (.int .i64) = 1 := rfl
    rw [hwd] at how
    have how0 := how
    rcases how.2 with ⟨rfl, h0⟩ | ⟨g, cap, cur, rfl, _, _, _, _, _, _⟩
    · have hl : l = [] := List.eq_nil_of_length_eq_zero h0
      subst hl
      have hc := Any.slices_Sort_int_none L none 0 w
      rw [hf] at hc
      refine hc.mono ?_
      rintro e w' ⟨rfl, rfl⟩
      have hm : List.mergeSort ([] : List Int) (fun x y : Int => decide (x ≤ y)) = [] := by simp
      refine ⟨_, rfl, Frame0.refl _ _, [], ⟨[], rfl, .slice none 0 0, [], [], rfl, rfl, ?_, ?_, rfl, rfl⟩, List.nodup_nil, by simp⟩
      · show World.ownsRow _ _ _ _ _ (List.mergeSort ([] : List Int) (fun x y : Int => decide (x ≤ y))).length []
        rw [hm]; exact World.ownsRow_nil _ _ _ _
      · show Rows _ [] (List.mergeSort ([] : List Int) (fun x y : Int => decide (x ≤ y)))
        rw [hm]; rfl
    · obtain ⟨hH, hlt⟩ := own_holds how0
      have hc := Any.slices_Sort_int L g 0 cap l w hH hlt hsz
      rw [hf] at hc
      refine hc.mono ?_
      rintro e w' ⟨rfl, n, os, rfl⟩
      have hb' : bl = [g] := by rw [hb]; rfl
      subst hb'
      have hlen : (List.mergeSort l fun x y : Int => decide (x ≤ y)).length = l.length := List.length_mergeSort _
      refine ⟨_, rfl, ?_, [g], ⟨[], rfl, _, (List.mergeSort l fun x y : Int => decide (x ≤ y)).map (Value.int .i64), [], rfl, rfl, put_owns hlen rfl how0, rows_one (k := .int .i64) rfl, rfl, rfl⟩, by simp, fun b hb => .inr hb⟩
      have := put_frame (enc := Value.int .i64) (w := w) (n := n) (g := g) (d := (List.mergeSort l fun x y : Int => decide (x ≤ y)).toArray) (os := os)
      exact ⟨this.os, this.tape, this.output, this.size, fun b hb hne => this.block b hb (by simpa using hne)⟩
  · cases h
/-- strings.Compare -/
def gvCompare (a b : ByteArray) : Int := Lib.compareBytes a.data.toList b.data.toList
def cmpFn : Fn := ⟨[.val .str, .val .str], .val (.int .i64), fun v => some (gvCompare v.1 v.2.1), []⟩
theorem Con.cmp {P : Program} {ρ : Ren} {G : World → Prop} (L : Lays.n106 P ρ) {f : Nat} (hf : ρ.f 106 = f) : Con P G f cmpFn := by
  intro v r w args bl X h ha hbl hX hG
  obtain ⟨u0, us, rfl, h0, u1, us', rfl, h1, rfl, rfl⟩ := ha
  rw [h0.str_inv, h1.str_inv]
  have hc := Any.strings_Compare L v.1 v.2.1 w
  rw [hf] at hc
  refine hc.mono ?_
  rintro e w' ⟨rfl, rfl⟩
  cases h
  exact ⟨_, rfl, Frame0.refl _ _, [], ⟨rfl, _, rfl, Reg.int .i64 _⟩, List.nodup_nil, by simp⟩
end Go.Fm
