/- The functional machine: slices.SortFunc at structs of plain parts, in its form; the comparison is a function that is told. -/
import Derived.Test.YtfiaplpfimfgiaaDoorFmGv
import Derived.Shelf.SlSortCmp.NoneTotal
set_option autoImplicit true
set_option linter.unusedVariables false
set_option linter.unusedSimpArgs false
set_option linter.unusedSectionVars false
namespace Go.Fm
open Go.Proofs Go.Shelf Go.Sort Go.RowKit
/-- a plain value's cells -/
def encK : (k : Kind) → k.T → List Value
  | .unit, _ => [] | .int ik, n => [.int ik n] | .bool, b => [.bool b] | .str, s => [.string s]
  | .pair a b, v => encK a v.1 ++ encK b v.2 | .struct a, v => encK a v
  | _, _ => []
theorem cells_enc {w : World} {O : Nat → Prop} : ∀ {k : Kind} (v : k.T), scal k = true → Cells w O k (encK k v) v
  | .unit, _, _ => rfl
  | .int _, _, _ => rfl
  | .bool, _, _ => rfl
  | .str, _, _ => rfl
  | .pair a b, v, h => by
    simp only [scal, Bool.and_eq_true] at h
    exact ⟨_, _, rfl, cells_enc v.1 h.1, cells_enc v.2 h.2⟩
  | .struct a, v, h => cells_enc (k := a) v h
  | .slice _, _, h => by simp [scal] at h
  | .arr _ _, _, h => by simp [scal] at h
  | .clo _ _, _, h => by simp [scal] at h
  | .ref _, _, h => by simp [scal] at h
  | .mpk _ _, _, h => by simp [scal] at h
  | .mbx _ _, _, h => by simp [scal] at h
theorem enc_len {k : Kind} (h : scal k = true) (v : k.T) : (encK k v).length = width k := (cells_enc (w := default) (O := fun _ => False) v h).length
theorem enc_one {k : Kind} (h : scal k = true) (v : k.T) : ∀ u ∈ encK k v, u.oneCell' = true := (cells_enc (w := default) (O := fun _ => False) v h).one
theorem rows_enc {w : World} {O : Nat → Prop} {k : Kind} (h : scal k = true) : ∀ (l : List k.T), Rows (Cells w O k) (l.map (encK k)).flatten l
  | [] => rfl
  | x :: l => ⟨_, _, rfl, cells_enc x h, rows_enc h l⟩
theorem rows_enc_inv {w : World} {O : Nat → Prop} {k : Kind} (h : scal k = true) {xs : List Value} {l : List k.T} (hr : Rows (Cells w O k) xs l) : xs = (l.map (encK k)).flatten :=
  Rows.det (P := Cells w O k) (Q := Cells w O k) (fun c c' x h1 h2 => Cells.det (scal_flat h) h1 h2) hr (rows_enc h l)
theorem flatten_get {α : Type} {enc : α → List Value} {k : Nat} (hk : ∀ x, (enc x).length = k) : ∀ (l : List α) (t : Nat), (l.map enc).flatten[t]? = (l[t / k]?).bind fun x => (enc x)[t % k]?
  | [], t => by simp
  | x :: l, t => by
    rw [List.map_cons, List.flatten_cons, List.getElem?_append]
    rcases Nat.eq_zero_or_pos k with h0 | h0
    · subst h0
      have h1 : enc x = [] := List.eq_nil_of_length_eq_zero (hk x)
      rw [if_neg (by simp [h1]), h1]
      have := flatten_get hk l t
      simp only [List.length_nil, Nat.sub_zero, this, Nat.div_zero, Nat.mod_zero]
      cases l with
      | nil => simp [h1]
      | cons y l => simp [h1, List.eq_nil_of_length_eq_zero (hk y)]
    · by_cases h : t < k
      · rw [if_pos (by rw [hk]; exact h), Nat.div_eq_of_lt h, Nat.mod_eq_of_lt h]; rfl
      · rw [if_neg (by rw [hk]; exact h), hk, flatten_get hk l (t - k)]
        have e1 : t / k = (t - k) / k + 1 := by rw [← Nat.add_div_right _ h0]; congr 1; omega
        have e2 : t % k = (t - k) % k := by rw [← Nat.add_mod_right (t - k) k]; congr 1; omega
        rw [e1, e2, List.getElem?_cons_succ]
theorem flatten_len {α : Type} {enc : α → List Value} {k : Nat} (hk : ∀ x, (enc x).length = k) : ∀ (l : List α), (l.map enc).flatten.length = l.length * k
  | [] => by simp
  | x :: l => by rw [List.map_cons, List.flatten_cons, List.length_append, hk, flatten_len hk l, List.length_cons, Nat.add_mul]; omega
theorem flatK_eq {α : Type} [Inhabited α] {enc : α → List Value} {k : Nat} (hk : ∀ x, (enc x).length = k) (l : List α) : flatK enc k l.toArray = (l.map enc).flatten.toArray := by
  refine ext_get! (by simp [flatten_len hk]) fun t ht => ?_
  have ht' : t < l.length * k := by simpa using ht
  have h0 : 0 < k := by rcases Nat.eq_zero_or_pos k with h | h
                        · subst h; simp at ht'
                        · exact h
  have hd : t / k < l.length := Nat.div_lt_of_lt_mul (by rwa [Nat.mul_comm])
  have hm : t % k < k := Nat.mod_lt _ h0
  rw [get_flatK _ _ _ t (by simpa using ht')]
  have h1 := flatten_get hk l t
  rw [List.getElem?_eq_getElem hd, Option.bind_some] at h1
  have e1 : (l.map enc).flatten.toArray[t]! = (((l.map enc).flatten)[t]?).getD default := by
    simp [Array.getElem!_eq_getD, Array.getD_eq_getD_getElem?]
  rw [e1, h1]
  have e2 : l.toArray[t / k]! = l[t / k] := by simp [hd]
  rw [e2]
  simp
variable [Strict]
/-- the cells of a row of our own -/
theorem own_cells {w : World} {ty : TypeId} {g n cap k m : Nat} {xs : List Value} (h : w.ownsRow 0 ty k (.slice (some ⟨g, 0, none⟩) n cap) m xs) : Holds id w g 0 xs.toArray ∧ g < w.heap.size := by
  rcases h.2 with ⟨h1, _⟩ | ⟨g', cap', cur, h1, _, h2, h3, _, h4, h5⟩
  · simp at h1
  · simp only [Value.slice.injEq, Option.some.injEq, Addr.mk.injEq] at h1
    obtain ⟨⟨rfl, _, _⟩, rfl, rfl⟩ := h1
    refine ⟨fun j hj => ?_, lt_of_heap h2⟩
    simp only [List.size_toArray] at hj
    have e1 : cur[j]? = some xs[j] := by
      have h6 := congrArg (fun z : List Value => z[j]?) h5
      have hlt : j < n * k := by rw [← h5, List.length_take] at hj; omega
      simp only [List.getElem?_take] at h6
      rw [if_pos hlt, List.getElem?_eq_getElem hj] at h6
      simpa using h6
    constructor
    · unfold World.cell?
      simp only [h2]
      simp [e1, hj]
    · unfold World.frozen?
      simp [h2]
theorem put_ownsK {w : World} {ty : TypeId} {n g k m cap : Nat} {xs ys : List Value} {os : Array Obj} (hl : ys.length = xs.length) (h : w.ownsRow 0 ty k (.slice (some ⟨g, 0, none⟩) m cap) m xs) :
    (grow (putRow id (Go.Sort.ahead w n) g 0 ys.toArray) os).ownsRow 0 ty k (.slice (some ⟨g, 0, none⟩) m cap) m ys := by
  rcases h.2 with ⟨h1, _⟩ | ⟨g', cap', cur, h1, h0, h2, h3, h6, h4, h5⟩
  · simp at h1
  · simp only [Value.slice.injEq, Option.some.injEq, Addr.mk.injEq] at h1
    obtain ⟨⟨rfl, _, _⟩, _, rfl⟩ := h1
    have hyl : ys.length = m * k := hl.trans h.1
    refine ⟨hyl, .inr ⟨g, cap, putCells id 0 ys.toArray cur, rfl, h0, ?_, h3, h6, by simp [putCells, h4], ?_⟩⟩
    · have hlt := lt_of_heap h2
      show ((w.heap.modify g _) ++ os)[g]? = _
      rw [Array.getElem?_append_left (by simpa using hlt), Array.getElem?_modify, if_pos rfl, h2]
      rfl
    · apply List.ext_getElem?
      intro j
      simp only [List.getElem?_take]
      by_cases hj : j < ys.length
      · rw [if_pos (by omega)]
        have hjc : j < cur.size := by
          have := Nat.mul_le_mul_right k h3
          omega
        simp [putCells, hj, hjc]
      · rw [if_neg (by omega), List.getElem?_eq_none (by omega)]
open Classical in
noncomputable def gvSortF {e : Kind} (F : ArgsT [.val e, .val e] → Option Int) (cf : e.T → e.T → Int) (l : List e.T) : Option (List e.T × Unit) :=
  if (∀ x y : e.T, F (x, y, ()) = some (cf x y)) ∧ List.length l < 4611686018427387904 then some (List.mergeSort l (fun x y => !(ltOf cf y x)), ()) else none
noncomputable def sortFn (ty : Nat) (e : Kind) (g : Nat) (F : ArgsT [.val e, .val e] → Option Int) (cf : e.T → e.T → Int) : Fn := ⟨[.own ty e, .val (.clo g .unit)], .tup (.back 0 ty e .nil), fun v => gvSortF F cf v.1, []⟩
/-- a function that changes nothing that was there, and undoes no draw: the world grows -/
theorem grow_of {W w' : World} (h : @Frame0 told W (· ∈ ([] : List Nat)) w') : ∃ q os, w' = grow (W.drewN q) os := by
  obtain ⟨e1, ⟨e2, e4⟩, e3, e5, e6⟩ := h
  have h1 := e4 trivial
  refine ⟨w'.drawn - W.drawn, w'.heap.extract W.heap.size w'.heap.size, ?_⟩
  have hh : w'.heap = W.heap ++ w'.heap.extract W.heap.size w'.heap.size := by
    apply Array.ext_getElem?
    intro i
    by_cases hi : i < W.heap.size
    · rw [Array.getElem?_append_left hi]
      exact e6 i hi (by simp)
    · rw [Array.getElem?_append_right (by omega), Array.getElem?_extract]
      by_cases hi2 : i < w'.heap.size
      · rw [if_pos (by omega)]
        congr 1; omega
      · rw [if_neg (by omega), Array.getElem?_eq_none (by omega)]
  have hd : w'.drawn = W.drawn + (w'.drawn - W.drawn) := by omega
  clear e4 h1 e5 e6
  cases w'; cases W
  simp only [grow, World.drewN, World.mk.injEq] at *
  exact ⟨hh, e2, hd, e1, e3⟩
instance {e : Kind} : Inhabited e.T := ⟨zeroT e⟩
/-- what is asked of the comparison -/
theorem cmp_lays {P : Program} {g : Nat} {e : Kind} (hs : scal e = true) (ha : aggB e = true) {F : ArgsT [.val e, .val e] → Option Int} (hg : @Con told P (fun _ => True) g ⟨[.val e, .val e], .val (.int .i64), F, []⟩) {cf : e.T → e.T → Int} (hF : ∀ x y : e.T, F (x, y, ()) = some (cf x y))
    (blk off size : Nat) (w : World) : CmpLays P g #[] (encK e) (width e) cf blk off size w := by
  intro m os dk hd x y
  have hr : ∀ (z : e.T) (O : Nat → Prop) (W : World), Reg W O e (.agg (encK e z).toArray) z := fun z O W => by
    unfold Reg; rw [if_pos ha]; exact ⟨_, rfl, cells_enc z hs⟩
  refine (hg (x, y, ()) (cf x y) _ [.agg (encK e x).toArray, .agg (encK e y).toArray] [] (fun _ => False) (hF x y) ⟨_, _, rfl, hr x _ _, _, _, rfl, hr y _ _, rfl, rfl⟩ List.nodup_nil (fun b hb => hb.elim) (fun _ _ => trivial)).mono ?_
  rintro e' w' ⟨u, rfl, hf, bl', hro, _, _⟩
  obtain ⟨_, u', hu, hr'⟩ := hro
  simp only [List.cons.injEq, and_true] at hu
  subst hu
  refine ⟨by rw [hr'.int_inv], grow_of hf⟩
theorem Con.sortFunc {P : Program} {ρ : Ren} {G : World → Prop} (L : SlLaysF0.n6 P ρ) {f : Nat} (hf : ρ.f 6 = f) (ty : Nat) {e : Kind} (hs : scal e = true) (ha : aggB e = true) (hA : ∀ w, (isAgg (ρ.t 24)).run P w = .ok true w) (hZ : ∀ w, (Go.sizeOf (ρ.t 24)).run P w = .ok (width e) w)
    {g : Nat} (eg : ∀ args w, (callFunc g args).run P w = .ok (.enter g args) w) {F : ArgsT [.val e, .val e] → Option Int} (hg : @Con told P (fun _ => True) g ⟨[.val e, .val e], .val (.int .i64), F, []⟩) {cf : e.T → e.T → Int} (hO : SWO (ltOf cf)) (hT : ∀ x y, (ltOf cf) x y = false → (ltOf cf) y x = false → x = y) :
    Con P G f (sortFn ty e g F cf) := by
  intro v r w args bl X h har hbl hX hG
  obtain ⟨l, c, ⟨⟩⟩ := v
  obtain ⟨u, us, xs, b2, rfl, hb, how, hrows, u1, us1, rfl, hc1, rfl, rfl⟩ := har
  unfold Reg at hc1
  rw [if_neg (by simp [aggB])] at hc1
  obtain ⟨_, caps, hcl, hcap⟩ := hc1
  simp only [List.cons.injEq, and_true] at hcl
  have hcap0 : caps = [] := hcap
  subst hcap0
  subst hcl
  dsimp only [sortFn, gvSortF] at r h how hrows ⊢
  split at h
  · rename_i hsz
    obtain ⟨hF, hsz⟩ := hsz
    obtain rfl := Option.some.inj h
    have hxs := rows_enc_inv hs hrows
    subst hxs
    have how0 := how
    have hlen : (List.mergeSort l fun x y => !(ltOf cf y x)).length = l.length := List.length_mergeSort _
    rcases how.2 with ⟨rfl, h0⟩ | ⟨g', cap, cur, rfl, _, _, _, _, _, _⟩
    · have hl : l = [] := List.eq_nil_of_length_eq_zero h0
      subst hl
      have hc := AnyF.slices_SortFunc_none L none 0 (.func (.func g) #[] #[]) w
      rw [hf] at hc
      refine hc.mono ?_
      rintro e' w' ⟨rfl, rfl⟩
      have hm : List.mergeSort ([] : List e.T) (fun x y => !(ltOf cf y x)) = [] := by simp
      refine ⟨_, rfl, Frame0.refl _ _, [], ⟨[], rfl, .slice none 0 0, [], [], rfl, rfl, ?_, ?_, rfl, rfl⟩, List.nodup_nil, by simp⟩
      · show World.ownsRow _ _ _ _ _ (List.mergeSort ([] : List e.T) (fun x y => !(ltOf cf y x))).length []
        rw [hm]; exact World.ownsRow_nil _ _ _ _
      · show Rows _ [] (List.mergeSort ([] : List e.T) (fun x y => !(ltOf cf y x)))
        rw [hm]; rfl
    · obtain ⟨hH, hlt⟩ := own_cells how0
      rw [← flatK_eq (enc_len hs) l] at hH
      have hc := AnyQ.slices_SortFunc_total L (width e) hA hZ (encK e) (enc_len hs) (enc_one hs) cf hO g #[] g' 0 cap l.toArray w eg (cmp_lays hs ha hg hF _ _ _ _) hH hlt (by simpa using hsz) hT
      rw [hf] at hc
      have hsz' : l.toArray.size = l.length := by simp
      rw [hsz'] at hc
      refine hc.mono ?_
      rintro e' w' ⟨rfl, n, os, rfl⟩
      have hb' : bl = [g'] := by rw [hb]; rfl
      subst hb'
      refine ⟨_, rfl, ?_, [g'], ⟨[], rfl, _, ((List.mergeSort l fun x y => !(ltOf cf y x)).map (encK e)).flatten, [], rfl, rfl, ?_, rows_enc hs _, rfl, rfl⟩, by simp, fun b hb => .inr hb⟩
      · have := put_frame (enc := id) (w := w) (n := n) (g := g') (d := flatK (encK e) (width e) (List.mergeSort l fun x y => !(ltOf cf y x)).toArray) (os := os)
        exact ⟨this.os, this.tape, this.output, this.size, fun b hb hne => this.block b hb (by simpa using hne)⟩
      · show World.ownsRow _ _ _ _ _ (List.mergeSort l fun x y => !(ltOf cf y x)).length _
        rw [hlen]
        show (grow (putRow id (Go.Sort.ahead w n) g' 0 (flatK (encK e) (width e) (List.mergeSort l.toArray.toList fun x y => !(ltOf cf y x)).toArray)) os).ownsRow _ _ _ _ _ _
        rw [List.toList_toArray, flatK_eq (enc_len hs)]
        exact put_ownsK (by rw [flatten_len (enc_len hs), flatten_len (enc_len hs), hlen]) how0
  · cases h
abbrev PairKK : Kind := .struct (.pair (.int .i64) (.int .i64))
/-- two numbers, by the first, then by the second -/
def cfPair (x y : Int × Int) : Int := if x.1 < y.1 then -1 else if y.1 < x.1 then 1 else if x.2 < y.2 then -1 else if y.2 < x.2 then 1 else 0
theorem ltPair_iff (x y : Int × Int) : ltOf cfPair x y = true ↔ x.1 < y.1 ∨ x.1 = y.1 ∧ x.2 < y.2 := by
  unfold ltOf cfPair
  split
  · simp; omega
  · split
    · simp; omega
    · split
      · simp; omega
      · split
        · simp; omega
        · simp; omega
theorem swoPair : SWO (ltOf cfPair) where
  irrefl x := by rw [← Bool.not_eq_true, ltPair_iff]; omega
  trans x y z h1 h2 := by rw [ltPair_iff] at *; omega
  ntrans x y z h1 h2 := by rw [← Bool.not_eq_true, ltPair_iff] at *; omega
theorem totPair (x y : Int × Int) (h1 : ltOf cfPair x y = false) (h2 : ltOf cfPair y x = false) : x = y := by
  rw [← Bool.not_eq_true, ltPair_iff] at *
  exact Prod.ext (by omega) (by omega)
theorem Con.sortPair {P : Program} {ρ : Ren} {G : World → Prop} {cx : Ctx} (hT : TypesOK P cx) (L : SlLaysF0.n6 P ρ) {f : Nat} (hf : ρ.f 6 = f) (hk : cx.kd (ρ.t 24) = PairKK) (ty : Nat) {g : Nat} (hc : callable P g = true)
    {F : ArgsT [.val PairKK, .val PairKK] → Option Int} (hg : @Con told P (fun _ => True) g ⟨[.val PairKK, .val PairKK], .val (.int .i64), F, []⟩) : Con P G f (sortFn ty PairKK g F cfPair) := by
  have hty := hT.ty (ρ.t 24) (by rw [hk]; simp)
  have hA := tyOK_agg hty
  have hZ := (tyOK_info hty (by rw [hk]; simp)).sizeOf
  rw [hk] at hA hZ
  exact Con.sortFunc L hf ty rfl rfl hA hZ (fun args w => run_callFunc hc args w) hg swoPair totPair
end Go.Fm
