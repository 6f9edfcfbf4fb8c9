/- The functional machine: a map's keys, sorted: slices.Sorted(maps.Keys(m)). -/
import Derived.Test.YtmbcblabfgepfaaDoorFmZ
import Derived.Test.YtmbcblabfgepfaaDoorFmGv
import Derived.Shelf.SlIter.Sorted
import Derived.Shelf.SortM.Plain
import Derived.Shelf.SortM.SortNone
set_option autoImplicit true
set_option linter.unusedVariables false
set_option linter.unusedSimpArgs false
set_option linter.unusedSectionVars false
namespace Go.Fm
variable [Strict]
open Go.Proofs Go.Shelf Go.Sort Go.RowKit Go.Maps
open Go.WideElems (Fit)

def keysFn (g : Nat) (kv : Kind) : Fn := ⟨[.val (.mpk .str kv)], .val (.clo g (.pair (.mbx .str kv) .unit)), fun v => some (v.1, ()), []⟩
theorem Con.keys {P : Program} {ρ : Ren} {G : World → Prop} (L : SlLaysZ.n7 P ρ) {f g : Nat} (hf : ρ.f 7 = f) (hg : ρ.f 10 = g) (kv : Kind) : Con P G f (keysFn g kv) := by
  intro v r w args bl X h ha hbl hX hG
  obtain ⟨u, us, rfl, hu, rfl, rfl⟩ := ha
  have hu2 := hu
  unfold Reg at hu2
  rw [if_neg (by simp [aggB])] at hu2
  obtain ⟨_, b, hb, hk1, hk2, hbh, hbO⟩ := hu2
  obtain rfl : u = .map (some b) := by simpa using hb
  cases h
  have hc := callsIn_wide.1 (AnyZ.keys_in L Fence.wide 0 trivial rfl (some b) w)
  rw [hf] at hc
  refine hc.mono ?_
  rintro e w' ⟨rfl, rfl⟩
  have hlt := lt_of_heap hbh
  have hgr := Grow.alloc w (.cells #[.map (some b)] (ρ.t 23))
  refine ⟨_, rfl, ⟨hgr.os, hgr.tape, hgr.output, hgr.size, fun b hb _ => hgr.block b hb⟩, [], ⟨rfl, _, rfl, ?_⟩, List.nodup_nil, by simp⟩
  unfold Reg
  rw [if_neg (by simp [aggB])]
  refine ⟨rfl, [.pointer (some ⟨w.heap.size, 0, none⟩)], by rw [hg], ?_⟩
  refine ⟨[.pointer (some ⟨w.heap.size, 0, none⟩)], [], rfl, ⟨w.heap.size, b, #[.map (some b)], ρ.t 23, _, rfl, heap_alloc_new _ _, rfl, ?_, hk1, hk2, (hgr.block b hlt).trans hbh, ?_⟩, rfl⟩
  · intro hx
    have hx : X w.heap.size := by simpa using hx
    have := (hX _ hx).1
    omega
  · intro hx
    exact hbO hx

open Classical in
noncomputable def gvKeys (l : List ByteArray) : Option (List ByteArray) :=
  if (∀ x ∈ l, x.size ≤ maxLen) ∧ l.length ≤ 8796093022208 ∧ l.Nodup then some (((l.map fun x => x.data.toList).mergeSort leB).map fun x => (⟨x.toArray⟩ : ByteArray)) else none
noncomputable def gvSKeys (kv : Kind) (l : List (ByteArray × kv.T)) : Option (List ByteArray) := gvKeys (l.map Prod.fst)
noncomputable def sortedKeysFn (g ty : Nat) (kv : Kind) : Fn := ⟨[.val (.clo g (.pair (.mbx .str kv) .unit))], .own ty .str, fun v => gvSKeys kv v.1.1, []⟩

theorem ents_born {kk kv : Kind} : ∀ (l : List (kk.T × kv.T)) (i : Nat), (mapEnts kk kv i l).map (·.born) = List.range' i l.length
  | [], _ => rfl
  | p :: l, i => by simp [mapEnts, ents_born l, List.range'_succ]
theorem ents_key {kk kv : Kind} : ∀ (l : List (kk.T × kv.T)) (i : Nat), (mapEnts kk kv i l).map (·.key) = l.map fun p => oneV kk p.1
  | [], _ => rfl
  | p :: l, i => by simp [mapEnts, ents_key l]
def keyR (v : Value) : Option (DataW Unit × List MemPlace) := some (.lit (.bool true), [])
theorem ents_rd {P : Program} {k : TypeId} (hk : P.underlying k = some .string) {kv : Kind} : ∀ (l : List (ByteArray × kv.T)) (i : Nat), (∀ x ∈ l.map Prod.fst, x.size ≤ maxLen) → ∀ x ∈ mapEnts .str kv i l, ∃ y, WideElems.rd P k keyR x = some y
  | [], _, _, x, hx => by cases hx
  | p :: l, i, hs, x, hx => by
    rcases List.mem_cons.1 hx with rfl | hx
    · refine ⟨(.string p.1.data.toList, .lit (.bool true)), ?_⟩
      have h1 : p.1.size ≤ maxLen := hs p.1 (by simp)
      simp [WideElems.rd, keyR, oneV, keyOf, hk, mapKey, h1]
    · exact ents_rd hk l (i + 1) (fun x hx => hs x (by simp [hx])) x hx
theorem ents_rg {P : Program} {k : TypeId} (hk : P.underlying k = some .string) {kv : Kind} : ∀ (l : List (ByteArray × kv.T)) (i : Nat), (∀ x ∈ l.map Prod.fst, x.size ≤ maxLen) → (mapEnts .str kv i l).map (fun x => strOf (WideElems.rg P k keyR x).1) = l.map fun p => p.1.data.toList
  | [], _, _ => rfl
  | p :: l, i, hs => by
    have h1 : p.1.size ≤ maxLen := hs p.1 (by simp)
    simp only [mapEnts, List.map_cons]
    rw [ents_rg hk l (i + 1) (fun x hx => hs x (by simp [hx]))]
    congr 1
    simp [WideElems.rg, WideElems.rd, keyR, oneV, keyOf, hk, mapKey, h1, strOf]

theorem Con.sortedKeys (hs : ¬ Strict.t) {P : Program} {ρ ρ7 ρm : Ren} {G : World → Prop} (L : SlLaysZ.n6 P ρ) (L7 : SlLaysZ.n7 P ρ7) (Lm : SlLaysM.n6 P ρm) {f g ty : Nat} (hf : ρ.f 6 = f) (hg : ρ7.f 10 = g) (hm : ρm.f 6 = ρ.f 9) (hty : ρ.t 26 = ty) (kv : Kind) : Con P G f (sortedKeysFn g ty kv) := by
  intro v r w args bl X h ha hbl hX hG
  obtain ⟨u, us, rfl, hu, rfl, rfl⟩ := ha
  obtain ⟨⟨l, ⟨⟩⟩, ⟨⟩⟩ := v
  dsimp only [sortedKeysFn] at h r
  unfold gvSKeys gvKeys at h
  split at h
  case isFalse => cases h
  case isTrue hc0 =>
  obtain ⟨hsz, hlen, hnd⟩ := hc0
  obtain rfl := Option.some.inj h
  have hu2 := hu
  unfold Reg at hu2
  rw [if_neg (by simp [aggB])] at hu2
  obtain ⟨_, caps, hcs, c1, c2, rfl, ⟨B, b, blk, bt, fr, rfl, hB, hB0, hBO, hk1, hk2, hbh, hbO⟩, hc2⟩ := hu2
  have hc2 : c2 = [] := hc2
  subst hc2
  have hcs : u = .func (.func g) #[] #[.pointer (some ⟨B, 0, none⟩)] := by simpa using hcs
  subst hcs
  have hl8 : l.length ≤ 8796093022208 := by simpa using hlen
  have hmx : l.length ≤ maxLen := Nat.le_trans hl8 (by decide)
  let es := (mapEnts .str kv 0 l).toArray
  let D0 : DataW Unit := .map ((es.toList.map (WideElems.rg P (ρ7.t 26) keyR)).foldr DataW.insert [])
  have hfit : Fit P (ρ7.t 26) keyR es l.length := by
    refine ⟨by simp [es, mapEnts_length, hmx], ⟨fun x hx => ?_, ?_, ?_⟩, fun x hx => ents_rd L7.t26 l 0 hsz x (by simpa [es] using hx)⟩
    · have hx : x ∈ mapEnts .str kv 0 l := by simpa [es] using hx
      have h1 : x.born ∈ (mapEnts .str kv 0 l).map (·.born) := List.mem_map.2 ⟨x, hx, rfl⟩
      rw [ents_born] at h1
      simp at h1
      omega
    · simp only [es, List.toList_toArray]; rw [ents_born]; exact List.nodup_range'
    · simp only [es, List.toList_toArray]; rw [ents_key]
      have : (l.map fun p => oneV .str p.1) = (l.map Prod.fst).map fun x => Value.string x := by simp [oneV]
      rw [this]
      exact List.pairwise_map.2 (hnd.imp fun {a b} hab e => hab (by simpa using e))
  have hown : w.ownsMap P (ρ7.t 26) keyR b l.length D0 := ⟨es, l.length, hbh, hfit, by simp [es, mapEnts_length], rfl⟩
  have hsize : Maps.size D0 = l.length := by
    show ((es.toList.map (WideElems.rg P (ρ7.t 26) keyR)).foldr DataW.insert []).length = _
    rw [(WideShapes.sorted_perm _).length_eq]
    simp [es, mapEnts_length]
  have hperm : (strKeys D0).Perm (l.map fun p => p.1.data.toList) := by
    show (((es.toList.map (WideElems.rg P (ρ7.t 26) keyR)).foldr DataW.insert []).map fun p => strOf p.1).Perm _
    refine ((WideShapes.sorted_perm _).map _).trans ?_
    rw [List.map_map, ← ents_rg L7.t26 l 0 hsz]
    exact List.Perm.refl _
  have hcell : w.cell? ⟨B, 0, none⟩ = some (.map (some b)) := by
    unfold World.cell?
    simp only [hB]
    simpa using hB0
  have hseq := AnyZ.keys_gives { L7 with } Fence.wide 2 trivial rfl (by omega) B b l.length D0 (R := keyR) w (lt_of_heap hB) hcell hown
  have hsort : AnyZ.SortsIn P ρ Fence.wide 4 :=
    ⟨fun blk off cap ss W hH hblk hsz => callsIn_wide.2 (by rw [← hm]; exact AnyM.slices_Sort_string Lm blk off cap ss W hH hblk hsz),
     fun p cap W => callsIn_wide.2 (by rw [← hm]; exact AnyM.slices_Sort_string_none Lm p cap W)⟩
  have hc := callsIn_wide.1 (AnyZ.sorted_in L Fence.wide 5 trivial trivial trivial trivial rfl (by omega) hsort (by rw [← hm]; exact Lm.f6.enters rfl) (ρ7.f 10) #[.pointer (some ⟨B, 0, none⟩)] trivial (L7.f10.enters rfl) _ _ (by rw [hsize]; exact hmx) (by rw [hsize]; omega) w hseq)
  rw [hf, hg] at hc
  refine hc.mono ?_
  rintro e w' ⟨x, ss, rfl, hS, hrow, hnil, hbelow⟩
  have hms : (ss.mergeSort fun x y => decide (x ≤ y)) = (l.map fun p => p.1.data.toList).mergeSort leB := mergeSort_of_perm (hS.trans hperm)
  rw [hms] at hrow
  have hlen2 : ss.length = l.length := by rw [hS.length_eq, hperm.length_eq]; simp
  have hfr : Frame0 w (· ∈ ([] : List Nat)) w' := ⟨hbelow.os, ⟨hbelow.tape, fun h => (hs h).elim⟩, hbelow.output, hbelow.size, fun b hb' _ => hbelow.block b hb'⟩
  have hl2 : (((l.map Prod.fst).map fun x : ByteArray => x.data.toList).mergeSort leB) = (l.map fun p => p.1.data.toList).mergeSort leB := by rw [List.map_map]; rfl
  refine ⟨_, rfl, hfr, (blkOf x).toList, ⟨x, (((l.map fun p => p.1.data.toList).mergeSort leB).map encStr), rfl, rfl, ?_, ?_⟩, by cases blkOf x <;> simp, ?_⟩
  · have hlen3 : List.length ((((l.map Prod.fst).map fun x : ByteArray => x.data.toList).mergeSort leB).map fun x => (⟨x.toArray⟩ : ByteArray)) = ss.length := by
      rw [hl2, List.length_map, List.length_mergeSort, List.length_map, hlen2]
    rw [hty] at hrow
    show w'.ownsRow 0 ty 1 x (List.length ((((l.map Prod.fst).map fun x : ByteArray => x.data.toList).mergeSort leB).map fun x => (⟨x.toArray⟩ : ByteArray))) _
    rw [hlen3]
    rcases hrow with ⟨h1, h2 | ⟨g', cap, cur, h2, h3, h4⟩⟩
    · exact ⟨h1, .inl h2⟩
    · exact ⟨h1, .inr ⟨g', cap, cur, h2, Nat.zero_le _, h4⟩⟩
  · have := rows_one (w := w') (O := fun b => b ∈ (blkOf x).toList ∨ X b) (k := .str) rfl (l := ((((l.map Prod.fst).map fun x : ByteArray => x.data.toList).mergeSort leB).map fun x => (⟨x.toArray⟩ : ByteArray)))
    have he : ((((l.map Prod.fst).map fun x : ByteArray => x.data.toList).mergeSort leB).map fun x => (⟨x.toArray⟩ : ByteArray)).map (oneV .str) = ((l.map fun p => p.1.data.toList).mergeSort leB).map encStr := by
      rw [hl2, List.map_map]; rfl
    rw [he] at this
    exact this
  · intro b' hb'
    left
    rcases hrow.2 with ⟨h2, _⟩ | ⟨g', cap, cur, h2, h3, _⟩
    · rw [h2] at hb'; simp [blkOf] at hb'
    · rw [h2] at hb'; simp [blkOf] at hb'; omega
end Go.Fm
