/- The functional machine: how its state stands to the Go machine's. -/
import Derived.Test.YtmbcblabfgepfaaDoorFmB
set_option autoImplicit true
set_option linter.unusedVariables false
set_option linter.unusedSectionVars false
namespace Go.Fm

structure Mem where
  w : World
  nodes : Nat → Option Node
  used : Nat → Bool
  loc : Nat → Value
  X : Nat → Prop

def blkOf : Value → Option Nat
  | .slice (some a) _ _ => some a.block
  | .pointer (some a) => some a.block
  | .map (some b) => some b
  | _ => none
/-- the blocks that lie behind a place: a deep row has many -/
@[reducible] def Blk : Value → Nat → Prop
  | .tuple a, b => ∃ u ∈ a.toList, (match u with | .tuple c => ∃ u' ∈ c.toList, blkOf u' = some b | u => blkOf u = some b)
  | v, b => blkOf v = some b
/-- a deep row's place: its own slice, and its elements' slices -/
def mkLoc (u0 : Value) (L : List (List Value)) : Value := .tuple (u0 :: L.map fun us => Value.tuple us.toArray).toArray
def hdr : Value → Option Value | .tuple a => a[0]? | _ => none
def prt (v : Value) (i j : Nat) : Option Value := match v with | .tuple a => (match a[i + 1]? with | some (.tuple c) => c[j]? | _ => none) | _ => none
theorem hdr_mk (u0 : Value) (L : List (List Value)) : hdr (mkLoc u0 L) = some u0 := by simp [hdr, mkLoc]
theorem prt_mk (u0 : Value) (L : List (List Value)) (i j : Nat) : prt (mkLoc u0 L) i j = (L[i]?).bind (·[j]?) := by
  simp only [prt, mkLoc, List.getElem?_toArray, List.getElem?_cons_succ, List.getElem?_map]
  cases L[i]? with
  | none => rfl
  | some us => simp
theorem Blk_mk {u0 : Value} {L : List (List Value)} {b : Nat} (h0 : ∀ c, u0 ≠ .tuple c) : Blk (mkLoc u0 L) b ↔ blkOf u0 = some b ∨ ∃ us ∈ L, ∃ u ∈ us, blkOf u = some b := by
  unfold mkLoc
  simp only [Blk, List.mem_cons, List.mem_map, exists_eq_or_imp]
  constructor
  · rintro (h | ⟨u, ⟨us, hus, rfl⟩, h⟩)
    · left
      cases u0 <;> first | exact h | (exact absurd rfl (h0 _))
    · exact .inr ⟨us, hus, by simpa using h⟩
  · rintro (h | ⟨us, hus, h⟩)
    · left
      cases u0 <;> first | exact h | (exact absurd rfl (h0 _))
    · exact .inr ⟨_, ⟨us, hus, rfl⟩, by simpa using h⟩
def blks : Value → List Nat
  | .tuple a => a.toList.flatMap fun u => match u with | .tuple c => c.toList.filterMap blkOf | u => (blkOf u).toList
  | v => (blkOf v).toList
theorem mem_blks {v : Value} {b : Nat} : b ∈ blks v ↔ Blk v b := by
  cases v <;> simp only [blks, Blk, Option.mem_toList, List.mem_flatMap]
  constructor <;> rintro ⟨u, hu, h⟩ <;> refine ⟨u, hu, ?_⟩ <;> cases u <;> simpa [List.mem_filterMap] using h
/-- blocks of our own -/
def Mem.own (m : Mem) (b : Nat) : Prop := ∃ r nd, m.nodes r = some nd ∧ Blk (m.loc r) b
/-- blocks that values keep away from: our own, and a caller's -/
def Mem.O (m : Mem) (b : Nat) : Prop := m.own b ∨ m.X b

/-- a register that may hold a value of the kind -/
def Form (k : Kind) (u : Value) : Prop := if aggB k = true then ∃ cs, u = .agg cs ∧ cs.size = width k ∧ ∀ c ∈ cs.toList, c.oneCell' = true else u.oneCell' = true ∧ width k = 1
theorem Form.size {k : Kind} {u : Value} (h : Form k u) : u.cells.size = width k := by
  unfold Form at h
  by_cases hc : aggB k = true
  · rw [if_pos hc] at h; obtain ⟨cs, rfl, h, _⟩ := h; exact h
  · rw [if_neg hc] at h; obtain ⟨h1, h⟩ := h
    cases u <;> simp [Value.oneCell'] at h1 <;> simp [Value.cells, h]
theorem Form.ones {k : Kind} {u : Value} (h : Form k u) : ∀ c ∈ u.cells.toList, c.oneCell' = true := by
  unfold Form at h
  by_cases hc : aggB k = true
  · rw [if_pos hc] at h; obtain ⟨cs, rfl, _, h⟩ := h; exact h
  · rw [if_neg hc] at h; obtain ⟨h1, h⟩ := h
    cases u <;> simp [Value.oneCell'] at h1 <;> simp [Value.cells, Value.oneCell']
/-- the register over cells -/
def regOf (k : Kind) (cs : List Value) : Value := if aggB k = true then .agg cs.toArray else cs.headD undef
theorem Form.reg {k : Kind} {u : Value} (h : Form k u) : regOf k u.cells.toList = u := by
  unfold Form at h; unfold regOf
  by_cases hc : aggB k = true
  · rw [if_pos hc] at *; obtain ⟨cs, rfl, h⟩ := h; simp [Value.cells]
  · rw [if_neg hc] at *; obtain ⟨h1, h⟩ := h
    cases u <;> simp [Value.oneCell'] at h1 <;> simp [Value.cells]
theorem Form.one {k : Kind} {u : Value} (h : Form k u) (hc : aggB k = false) : u.oneCell' = true := by
  unfold Form at h; rw [if_neg (by simp [hc])] at h; exact h.1
theorem Form.agg {k : Kind} {u : Value} (h : Form k u) (hc : aggB k = true) : ∃ cs, u = .agg cs ∧ cs.size = width k ∧ ∀ c ∈ cs.toList, c.oneCell' = true := by
  unfold Form at h; rw [if_pos hc] at h; exact h
theorem Reg.form {w : World} {O : Nat → Prop} {k : Kind} {u : Value} {v : k.T} (h : Reg w O k u v) : Form k u := by
  have hl := h.cells.length
  unfold Reg at h; unfold Form
  by_cases hc : aggB k = true
  · rw [if_pos hc] at *; obtain ⟨cs, rfl, h⟩ := h; exact ⟨cs, rfl, by simpa [Value.cells] using hl, h.one⟩
  · rw [if_neg hc] at *; exact ⟨h.1, by simpa using h.2.length.symm⟩
theorem Reg.of {w : World} {O : Nat → Prop} {k : Kind} {u : Value} {v : k.T} (hf : Form k u) (h : Cells w O k u.cells.toList v) : Reg w O k u v := by
  unfold Form at hf; unfold Reg
  by_cases hc : aggB k = true
  · rw [if_pos hc] at *; obtain ⟨cs, rfl, _⟩ := hf; exact ⟨cs, rfl, h⟩
  · rw [if_neg hc] at *; obtain ⟨h1, _⟩ := hf
    refine ⟨h1, ?_⟩
    cases u <;> simp [Value.oneCell'] at h1 <;> simpa [Value.cells] using h
theorem Form.of_cells {w : World} {O : Nat → Prop} {k : Kind} {cs : List Value} {v : k.T} (h : Cells w O k cs v) (hk : aggB k = true ∨ width k = 1) : Form k (regOf k cs) ∧ (regOf k cs).cells.toList = cs := by
  have hl := h.length
  unfold Form regOf
  by_cases hc : aggB k = true
  · simp only [if_pos hc]; exact ⟨⟨_, rfl, by simpa using hl, by simpa using h.one⟩, by simp [Value.cells]⟩
  · simp only [if_neg hc]
    have hw := hk.resolve_left hc
    rw [hw] at hl
    obtain ⟨u, rfl⟩ := List.length_eq_one_iff.1 hl
    have h1 := h.one u (by simp)
    refine ⟨⟨by simpa using h1, hw⟩, ?_⟩
    cases u <;> simp [Value.oneCell'] at h1 <;> simp [Value.cells]
theorem Form.of_len {k : Kind} {cs : List Value} (hl : cs.length = width k) (h1 : ∀ u ∈ cs, u.oneCell' = true) (hk : aggB k = true ∨ width k = 1) : Form k (regOf k cs) ∧ (regOf k cs).cells.toList = cs := by
  unfold Form regOf
  by_cases hc : aggB k = true
  · simp only [if_pos hc]; exact ⟨⟨_, rfl, by simpa using hl, by simpa using h1⟩, by simp [Value.cells]⟩
  · simp only [if_neg hc]
    have hw := hk.resolve_left hc
    rw [hw] at hl
    obtain ⟨u, rfl⟩ := List.length_eq_one_iff.1 hl
    have h1 := h1 u (by simp)
    refine ⟨⟨by simpa using h1, hw⟩, ?_⟩
    cases u <;> simp [Value.oneCell'] at h1 <;> simp [Value.cells]

def fitsD (k : Kind) (x : Slot) : Bool := (match x with | .dead => true | _ => false) || fits k x
def notPair : Kind → Prop | .pair _ _ => False | _ => True
def catCells (us : List Value) : List Value := (us.map fun u => u.cells.toList).flatten

def zcells : Kind → List Value
  | .unit => [] | .int k => [.int k 0] | .bool => [.bool false] | .str => [.string ⟨#[]⟩]
  | .pair a b => zcells a ++ zcells b | .struct a => zcells a | .slice _ => [.slice none 0 0]
  | .arr n e => (List.replicate n (zcells e)).flatten | .clo _ _ => [.nilFunc] | .ref _ => [.pointer none] | .mpk _ _ => [.map none] | .mbx _ _ => [.pointer none] | .err => [.nilIface] | .recB _ _ _ => [.pointer none] | .fnk => [.nilFunc]
mutual
def SRel (m : Mem) : Slot → Value → Prop
  | .dead, _ => True
  | .val k v, u => Reg m.w m.O k u v
  | .prop p d, u => u = .bool (@decide p d)
  | .nils, u => u = .slice none 0 0
  | .undef, u => u = Go.undef
  | .root r, u => m.used r = true ∧ (∃ A n c, u = .slice A n c) ∧ ∀ ty e l, m.nodes r = some (.row ty e l) → u = m.loc r
  | .sub r lo hi, u => m.used r = true ∧ ∀ ty e l, m.nodes r = some (.row ty e l) → 0 ≤ lo ∧ lo ≤ hi ∧ hi ≤ (l.length : Int) ∧
      ∃ A c, u = .slice A (hi - lo).toNat c ∧ (hi - lo).toNat ≤ c ∧ (lo < hi → ∃ g n cap, m.loc r = .slice (some ⟨g, 0, none⟩) n cap ∧ A = some ⟨g, lo.toNat * width e, none⟩) ∧ (lo = 0 → ∃ n, m.loc r = .slice A n c)
  | .box b path, u => m.used b = true ∧ ∀ k c, m.nodes b = some (.var k c) → ∃ g o k', m.loc b = .pointer (some ⟨g, 0, none⟩) ∧ pathOff k path = some (o, k') ∧ u = .pointer (some ⟨g, o, none⟩)
  | .elem r i path, u => m.used r = true ∧ ∀ ty e l, m.nodes r = some (.row ty e l) → 0 ≤ i ∧ i < (l.length : Int) ∧
      ∃ g n cap o k', m.loc r = .slice (some ⟨g, 0, none⟩) n cap ∧ pathOff e path = some (o, k') ∧ u = .pointer (some ⟨g, i.toNat * width e + o, none⟩)
  | .cell b i, u => m.used b = true ∧ ∀ n e c, m.nodes b = some (.var (.arr n e) c) → 0 ≤ i ∧ i < (n : Int) ∧ ∃ g, m.loc b = .pointer (some ⟨g, 0, none⟩) ∧ u = .pointer (some ⟨g, i.toNat * width e, none⟩)
  | .droot r, u => m.used r = true ∧ hdr (m.loc r) = some u ∧ ∃ A n c, u = .slice A n c
  | .delem r e i path, u => m.used r = true ∧ 0 ≤ i ∧ ∃ g n cap o k', hdr (m.loc r) = some (.slice (some ⟨g, 0, none⟩) n cap) ∧ i < (n : Int) ∧ pathOff e path = some (o, k') ∧ u = .pointer (some ⟨g, i.toNat * width e + o, none⟩)
  | .part r i f j, u => m.used r = true ∧ 0 ≤ i ∧ prt (m.loc r) i.toNat j = some u ∧ ∃ A n c, u = .slice A n c
  | .mref r, u => m.used r = true ∧ (∃ b, u = .map b) ∧ ∀ kk kv l, m.nodes r = some (.mp kk kv l) → u = m.loc r
  | .agg k l, u => ∃ a us, k = .struct a ∧ u = .agg (catCells us).toArray ∧ SRels m a l us
  | .tup l, u => ∃ us, u = .tuple us.toArray ∧ STup m l us
  | .fbox b _, u => m.used b = true ∧ ∀ k c, m.nodes b = some (.var k c) → ∃ g o k', m.loc b = .pointer (some ⟨g, 0, none⟩) ∧ pathOff k [] = some (o, k') ∧ u = .pointer (some ⟨g, o, none⟩)
  | .fn g l _, u => ∃ us, u = .func (.func g) #[] us.toArray ∧ STup m l us
  | .zero k, u => u.cells.toList = zcells k
def SRels (m : Mem) : Kind → List Slot → List Value → Prop
  | k, [], us => k = .unit ∧ us = []
  | k, x :: l, us => ∃ u us', us = u :: us' ∧ SRel m x u ∧ ((∃ a b, k = .pair a b ∧ l ≠ [] ∧ Form a u ∧ fitsD a x = true ∧ SRels m b l us') ∨ (notPair k ∧ k ≠ .unit ∧ l = [] ∧ us' = [] ∧ Form k u ∧ fitsD k x = true))
def STup (m : Mem) : List Slot → List Value → Prop
  | [], us => us = []
  | x :: l, us => ∃ u us', us = u :: us' ∧ SRel m x u ∧ STup m l us'
end

def shape : Node → Node → Prop
  | .row ty e l, .row ty' e' l' => ty = ty' ∧ e = e' ∧ l.length = l'.length
  | .var k _, .var k' _ => k = k'
  | .mp kk kv _, .mp kk' kv' _ => kk = kk' ∧ kv = kv'
  | .deep _ _ _ _, .deep _ _ _ _ => True
  | .hole _ _ _ _ _ _, .hole _ _ _ _ _ _ => True
  | _, _ => False
def isRow : Node → Bool | .row _ _ _ => true | .deep _ _ _ _ => true | .hole _ _ _ _ _ _ => true | _ => false
def isDeep : Node → Bool | .deep _ _ _ _ => true | _ => false
theorem shape.refl : ∀ nd, shape nd nd
  | .row _ _ _ => ⟨rfl, rfl, rfl⟩
  | .var _ _ => rfl
  | .mp _ _ _ => ⟨rfl, rfl⟩
  | .deep _ _ _ _ => trivial
  | .hole _ _ _ _ _ _ => trivial

structure Mem.le (m m' : Mem) : Prop where
  keep : Keep m.w m.O m'.w m'.O
  used : ∀ r, m.used r = true → m'.used r = true
  loc : ∀ r, m.used r = true → m'.loc r = m.loc r
  node : ∀ r nd', m.used r = true → m'.nodes r = some nd' → isDeep nd' = true ∨ ∃ nd, m.nodes r = some nd ∧ shape nd nd'
theorem Mem.le.row {m m' : Mem} (h : m.le m') {r ty e l'} (hu : m.used r = true) (hn : m'.nodes r = some (.row ty e l')) : ∃ l, m.nodes r = some (.row ty e l) ∧ l.length = l'.length := by
  obtain ⟨nd, h1, h2⟩ := (h.node r _ hu hn).resolve_left (by simp [isDeep])
  cases nd with
  | row ty2 e2 l2 => obtain ⟨rfl, rfl, h3⟩ := h2; exact ⟨l2, h1, h3⟩
  | var => exact h2.elim
  | mp => exact h2.elim
  | deep => exact h2.elim
  | hole => exact h2.elim
theorem Mem.le.mp {m m' : Mem} (h : m.le m') {r kk kv l'} (hu : m.used r = true) (hn : m'.nodes r = some (.mp kk kv l')) : ∃ l, m.nodes r = some (.mp kk kv l) := by
  obtain ⟨nd, h1, h2⟩ := (h.node r _ hu hn).resolve_left (by simp [isDeep])
  cases nd with
  | row => exact h2.elim
  | var => exact h2.elim
  | mp kk2 kv2 l2 => obtain ⟨rfl, rfl⟩ := h2; exact ⟨l2, h1⟩
  | deep => exact h2.elim
  | hole => exact h2.elim
theorem Mem.le.var {m m' : Mem} (h : m.le m') {r k c'} (hu : m.used r = true) (hn : m'.nodes r = some (.var k c')) : ∃ c, m.nodes r = some (.var k c) := by
  obtain ⟨nd, h1, h2⟩ := (h.node r _ hu hn).resolve_left (by simp [isDeep])
  cases nd with
  | row => exact h2.elim
  | var k2 c2 => have : k2 = k := h2; subst this; exact ⟨c2, h1⟩
  | mp => exact h2.elim
  | deep => exact h2.elim
  | hole => exact h2.elim

mutual
theorem SRel.mono {m m' : Mem} (h : m.le m') : ∀ (s : Slot) {u : Value}, SRel m s u → SRel m' s u
  | .dead, _, _ => by simp [SRel]
  | .val k v, u, hs => by simp only [SRel] at *; exact hs.keep h.keep
  | .prop p d, u, hs => by simpa only [SRel] using hs
  | .nils, u, hs => by simpa only [SRel] using hs
  | .undef, u, hs => by simpa only [SRel] using hs
  | .root r, u, hs => by
    simp only [SRel] at *
    refine ⟨h.used r hs.1, hs.2.1, fun ty e l hn => ?_⟩
    obtain ⟨l0, h0, _⟩ := h.row hs.1 hn
    rw [h.loc r hs.1]; exact hs.2.2 ty e l0 h0
  | .sub r lo hi, u, hs => by
    simp only [SRel] at *
    refine ⟨h.used r hs.1, fun ty e l hn => ?_⟩
    obtain ⟨l0, h0, h1⟩ := h.row hs.1 hn
    rw [h.loc r hs.1, ← h1]; exact hs.2 ty e l0 h0
  | .box b path, u, hs => by
    simp only [SRel] at *
    refine ⟨h.used b hs.1, fun k c hn => ?_⟩
    obtain ⟨c0, h0⟩ := h.var hs.1 hn
    rw [h.loc b hs.1]; exact hs.2 k c0 h0
  | .elem r i path, u, hs => by
    simp only [SRel] at *
    refine ⟨h.used r hs.1, fun ty e l hn => ?_⟩
    obtain ⟨l0, h0, h1⟩ := h.row hs.1 hn
    rw [h.loc r hs.1, ← h1]; exact hs.2 ty e l0 h0
  | .cell b i, u, hs => by
    simp only [SRel] at *
    refine ⟨h.used b hs.1, fun n e c hn => ?_⟩
    obtain ⟨c0, h0⟩ := h.var hs.1 hn
    rw [h.loc b hs.1]; exact hs.2 n e c0 h0
  | .droot r, u, hs => by
    simp only [SRel] at *
    exact ⟨h.used r hs.1, by rw [h.loc r hs.1]; exact hs.2.1, hs.2.2⟩
  | .delem r e i path, u, hs => by
    simp only [SRel] at *
    exact ⟨h.used r hs.1, hs.2.1, by rw [h.loc r hs.1]; exact hs.2.2⟩
  | .part r i f j, u, hs => by
    simp only [SRel] at *
    exact ⟨h.used r hs.1, hs.2.1, by rw [h.loc r hs.1]; exact hs.2.2⟩
  | .mref r, u, hs => by
    simp only [SRel] at *
    refine ⟨h.used r hs.1, hs.2.1, fun kk kv l hn => ?_⟩
    obtain ⟨l0, h0⟩ := h.mp hs.1 hn
    rw [h.loc r hs.1]; exact hs.2.2 kk kv l0 h0
  | .agg k l, u, hs => by
    simp only [SRel] at *
    obtain ⟨a, us, h1, h2, h3⟩ := hs
    exact ⟨a, us, h1, h2, SRels.mono h l h3⟩
  | .tup l, u, hs => by
    simp only [SRel] at *
    obtain ⟨us, h1, h2⟩ := hs
    exact ⟨us, h1, STup.mono h l h2⟩
  | .fbox b rs, u, hs => by
    simp only [SRel] at *
    refine ⟨h.used b hs.1, fun k c hn => ?_⟩
    obtain ⟨c0, h0⟩ := h.var hs.1 hn
    rw [h.loc b hs.1]; exact hs.2 k c0 h0
  | .fn g l _, u, hs => by
    simp only [SRel] at *
    obtain ⟨us, h1, h2⟩ := hs
    exact ⟨us, h1, STup.mono h l h2⟩
  | .zero k, u, hs => by simpa only [SRel] using hs
theorem SRels.mono {m m' : Mem} (h : m.le m') : ∀ (l : List Slot) {k : Kind} {us : List Value}, SRels m k l us → SRels m' k l us
  | [], k, us, hs => by simpa only [SRels] using hs
  | x :: l, k, us, hs => by
    simp only [SRels] at *
    obtain ⟨u, us', h1, h2, h3⟩ := hs
    refine ⟨u, us', h1, SRel.mono h x h2, h3.imp ?_ id⟩
    rintro ⟨a, b, h4, h5, h6, h7, h8⟩
    exact ⟨a, b, h4, h5, h6, h7, SRels.mono h l h8⟩
theorem STup.mono {m m' : Mem} (h : m.le m') : ∀ (l : List Slot) {us : List Value}, STup m l us → STup m' l us
  | [], us, hs => by simpa only [STup] using hs
  | x :: l, us, hs => by
    simp only [STup] at *
    obtain ⟨u, us', h1, h2, h3⟩ := hs
    exact ⟨u, us', h1, SRel.mono h x h2, STup.mono h l h3⟩
end

/-- the cells of a deep row's element: its rows' slices are told aside -/
def DS (w : World) (O : Nat → Prop) : (k : Kind) → List Value → k.T → List Value → Prop
  | .pair a b, cs, v, us => ∃ c1 c2 u1 u2, cs = c1 ++ c2 ∧ us = u1 ++ u2 ∧ DS w O a c1 v.1 u1 ∧ DS w O b c2 v.2 u2
  | .slice _, cs, _, us => ∃ A n c, cs = [.slice A n c] ∧ us = cs
  | k, cs, v, us => us = [] ∧ Cells w O k cs v
def DE (w : World) (O : Nat → Prop) : (e : Kind) → List Value → e.T × List Value → Prop
  | .struct a, cs, p => DS w O a cs p.1 p.2
  | _, _, _ => False
/-- a row of an element -/
def PartOK (w : World) (O : Nat → Prop) (ty : Nat) (u : Value) (q : Sigma fun e : Kind => List e.T) : Prop :=
  ∃ xs, w.ownsRow 0 ty (width q.1) u (List.length q.2) xs ∧ Rows (Cells w O q.1) xs q.2
def PartsR (w : World) (O : Nat → Prop) (e : Kind) (ts : List Nat) (L : List (e.T × List Value)) (sk : Nat → Nat → Prop) : Prop :=
  ∀ i j p u q ty, L[i]? = some p → p.2[j]? = some u → (partsE e p.1)[j]? = some q → ts[j]? = some ty → ¬ sk i j → PartOK w O ty u q
/-- no two of a deep row's slices lie in one block -/
structure Apart (u0 : Value) (L : List (List Value)) : Prop where
  out : ∀ (i j : Nat) (us : List Value) (u : Value) (b : Nat), L[i]? = some us → us[j]? = some u → blkOf u0 = some b → blkOf u ≠ some b
  inn : ∀ (i j i' j' : Nat) (us us' : List Value) (u u' : Value) (b : Nat), L[i]? = some us → us[j]? = some u → L[i']? = some us' → us'[j']? = some u' → blkOf u = some b → blkOf u' = some b → i = i' ∧ j = j'
def DeepR (w : World) (O : Nat → Prop) (ty : Nat) (e : Kind) (ts : List Nat) (v : Value) (l : List e.T) (sk : Nat → Nat → Prop) : Prop :=
  ∃ u0 xs, ∃ L : List (e.T × List Value), v = mkLoc u0 (L.map (·.2)) ∧ deepB e ts = true ∧ l = L.map (·.1) ∧ w.ownsRow 0 ty (width e) u0 l.length xs ∧ Rows (DE w O e) xs L ∧ PartsR w O e ts L sk ∧ Apart u0 (L.map (·.2))
/-- the blocks that are left when a row of an element is by itself -/
def HoleB (v : Value) (i j b : Nat) : Prop := (∃ u, hdr v = some u ∧ blkOf u = some b) ∨ ∃ i' j' u, ¬ (i' = i ∧ j' = j) ∧ prt v i' j' = some u ∧ blkOf u = some b
def NodeRel (m : Mem) (r : Nat) : Node → Prop
  | .row ty e l => ∃ xs, m.w.ownsRow 0 ty (width e) (m.loc r) l.length xs ∧ Rows (Cells m.w m.O e) xs l
  | .var k c => ∃ g blk ty u, m.loc r = .pointer (some ⟨g, 0, none⟩) ∧ m.w.heap[g]? = some (.cells blk ty (0, 0)) ∧ u.cells = blk ∧ Form k u ∧ fitsD k c = true ∧ SRel m c u
  | .mp kk kv l => keyK kk = true ∧ elemK kv = true ∧ ∃ b, m.loc r = .map (some b) ∧ m.w.heap[b]? = some (mapObj kk kv l)
  | .deep ty e ts l => DeepR m.w m.O ty e ts (m.loc r) l (fun _ _ => False)
  | .hole ty e ts l i j => ∃ v, DeepR m.w m.O ty e ts v l (fun i' j' => i' = i.toNat ∧ j' = j) ∧ hdr (m.loc r) = hdr v ∧ (∀ b, Blk (m.loc r) b ↔ HoleB v i.toNat j b) ∧ (blks (m.loc r)).Nodup

theorem ownsRow_same {w w' : World} {ty size : Nat} {v : Value} {n : Nat} {xs : List Value} (h : w.ownsRow 0 ty size v n xs) (hb : ∀ b, Blk v b → w'.heap[b]? = w.heap[b]?) : w'.ownsRow 0 ty size v n xs := by
  refine ⟨h.1, h.2.imp id ?_⟩
  rintro ⟨g, cap, cur, rfl, h1, h2, h3⟩
  exact ⟨g, cap, cur, rfl, h1, (hb g rfl).trans h2, h3⟩
theorem ownsRow_slice {w : World} {ty size : Nat} {v : Value} {n : Nat} {xs : List Value} (h : w.ownsRow 0 ty size v n xs) : ∃ A c, v = .slice A n c := by
  rcases h.2 with ⟨rfl, h3⟩ | ⟨g, cap, cur, rfl, _⟩
  · exact ⟨none, 0, by rw [h3]⟩
  · exact ⟨_, _, rfl⟩
theorem own_blk {w : World} {ty size : Nat} {v : Value} {n : Nat} {xs : List Value} (h : w.ownsRow 0 ty size v n xs) {b : Nat} : Blk v b ↔ blkOf v = some b := by
  obtain ⟨A, c, hA⟩ := ownsRow_slice h
  rw [hA]
theorem blks_own {w : World} {ty size : Nat} {v : Value} {n : Nat} {xs : List Value} (h : w.ownsRow 0 ty size v n xs) : blks v = (blkOf v).toList := by
  obtain ⟨A, c, hA⟩ := ownsRow_slice h
  rw [hA]; rfl
theorem Blk_of_slice {A : Option Addr} {n c b : Nat} : Blk (.slice A n c) b ↔ blkOf (.slice A n c) = some b := Iff.rfl
theorem DS.keep {w w' : World} {O O' : Nat → Prop} (hk : Keep w O w' O') : ∀ {k : Kind} {cs : List Value} {v : k.T} {us : List Value}, DS w O k cs v us → DS w' O' k cs v us
  | .pair a b, cs, v, us, h => by
    obtain ⟨c1, c2, u1, u2, h1, h2, h3, h4⟩ := h
    exact ⟨c1, c2, u1, u2, h1, h2, h3.keep hk, h4.keep hk⟩
  | .slice _, cs, v, us, h => h
  | .unit, _, _, _, h => ⟨h.1, Cells.keep (k := .unit) hk h.2⟩
  | .int _, _, _, _, h => ⟨h.1, Cells.keep (k := .int _) hk h.2⟩
  | .bool, _, _, _, h => ⟨h.1, Cells.keep (k := .bool) hk h.2⟩
  | .str, _, _, _, h => ⟨h.1, Cells.keep (k := .str) hk h.2⟩
  | .struct _, _, _, _, h => ⟨h.1, Cells.keep (k := .struct _) hk h.2⟩
  | .arr _ _, _, _, _, h => ⟨h.1, Cells.keep (k := .arr _ _) hk h.2⟩
  | .clo _ _, _, _, _, h => ⟨h.1, Cells.keep (k := .clo _ _) hk h.2⟩
  | .ref _, _, _, _, h => ⟨h.1, Cells.keep (k := .ref _) hk h.2⟩
  | .mpk _ _, _, _, _, h => ⟨h.1, Cells.keep (k := .mpk _ _) hk h.2⟩
  | .mbx _ _, _, _, _, h => ⟨h.1, Cells.keep (k := .mbx _ _) hk h.2⟩
  | .recB _ _ _, _, _, _, h => ⟨h.1, Cells.keep (k := .recB _ _ _) hk h.2⟩
  | .err, _, _, _, h => ⟨h.1, Cells.keep (k := .err) hk h.2⟩
  | .fnk, _, _, _, h => ⟨h.1, Cells.keep (k := .fnk) hk h.2⟩
theorem DE.keep {w w' : World} {O O' : Nat → Prop} (hk : Keep w O w' O') {e : Kind} {cs : List Value} {p : e.T × List Value} (h : DE w O e cs p) : DE w' O' e cs p := by
  cases e <;> first | exact h.elim | exact DS.keep hk h
theorem DeepR.keep {w w' : World} {O O' : Nat → Prop} (hk : Keep w O w' O') {ty : Nat} {e : Kind} {ts : List Nat} {v : Value} {l : List e.T} {sk sk' : Nat → Nat → Prop} (hs : ∀ i j, sk i j → sk' i j)
    (hb : ∀ b u0, hdr v = some u0 → blkOf u0 = some b → w'.heap[b]? = w.heap[b]?) (hp : ∀ i j u b, prt v i j = some u → blkOf u = some b → ¬ sk' i j → w'.heap[b]? = w.heap[b]?) (h : DeepR w O ty e ts v l sk) : DeepR w' O' ty e ts v l sk' := by
  obtain ⟨u0, xs, L, rfl, h2, h3, h4, h5, h6, h7⟩ := h
  refine ⟨u0, xs, L, rfl, h2, h3, ?_, h5.imp fun c p hp => hp.keep hk, ?_, h7⟩
  · obtain ⟨A, c, hA⟩ := ownsRow_slice h4
    exact ownsRow_same h4 fun b hb' => hb b u0 (hdr_mk _ _) (by rw [hA] at hb' ⊢; exact hb')
  · intro i j p u q ty' e1 e2 e3 e4 e5
    obtain ⟨xs', k1, k2⟩ := h6 i j p u q ty' e1 e2 e3 e4 (fun h => e5 (hs _ _ h))
    obtain ⟨A, c, hA⟩ := ownsRow_slice k1
    exact ⟨xs', ownsRow_same k1 fun b hb' => hp i j u b (by rw [prt_mk, List.getElem?_map, e1]; exact e2) (by rw [hA] at hb' ⊢; exact hb') e5, k2.imp fun c x hc => hc.keep hk⟩
theorem Blk_hdr {v u0 : Value} {b : Nat} (h : hdr v = some u0) (h0 : ∀ c, u0 ≠ .tuple c) (hb : blkOf u0 = some b) : Blk v b := by
  cases v <;> simp [hdr] at h
  rename_i a
  simp only [Blk]
  refine ⟨u0, Array.mem_toList_iff.2 (Array.mem_of_getElem? h), ?_⟩
  cases u0 <;> first | exact hb | (exact absurd rfl (h0 _))
theorem Blk_prt {v u : Value} {i j b : Nat} (h : prt v i j = some u) (hb : blkOf u = some b) : Blk v b := by
  cases v <;> simp [prt] at h
  rename_i a
  split at h
  · rename_i c hc
    simp only [Blk]
    exact ⟨.tuple c, Array.mem_toList_iff.2 (Array.mem_of_getElem? hc), u, Array.mem_toList_iff.2 (Array.mem_of_getElem? h), hb⟩
  · cases h
theorem DeepR.hdr {w : World} {O : Nat → Prop} {ty : Nat} {e : Kind} {ts : List Nat} {v : Value} {l : List e.T} {sk : Nat → Nat → Prop} (h : DeepR w O ty e ts v l sk) : ∃ A c, hdr v = some (.slice A l.length c) := by
  obtain ⟨u0, xs, L, rfl, h2, h3, h4, h5, h6, h7⟩ := h
  obtain ⟨A, c, hA⟩ := ownsRow_slice h4
  exact ⟨A, c, by rw [hdr_mk, hA]⟩
/-- a row, or a deep row, by its world -/
def NodeW (w : World) (O : Nat → Prop) (v : Value) : Node → Prop
  | .row ty e l => ∃ xs, w.ownsRow 0 ty (width e) v l.length xs ∧ Rows (Cells w O e) xs l
  | .deep ty e ts l => DeepR w O ty e ts v l (fun _ _ => False)
  | _ => False
theorem NodeW.rel {m : Mem} {w : World} {O : Nat → Prop} {q : Nat} {x : Node} (h : NodeW w O (m.loc q) x) (hw : m.w = w) (hO : ∀ b, m.O b → O b) : NodeRel m q x := by
  subst hw
  have hk : Keep m.w O m.w m.O := ⟨fun _ _ _ => rfl, fun b _ hb => hO b hb⟩
  cases x with
  | row ty e l => obtain ⟨xs, h1, h2⟩ := h; exact ⟨xs, h1, h2.imp fun c x hc => hc.keep hk⟩
  | deep ty e ts l => exact DeepR.keep hk (fun _ _ h => h) (fun _ _ _ _ => rfl) (fun _ _ _ _ _ _ _ => rfl) h
  | var => exact h.elim
  | mp => exact h.elim
  | hole => exact h.elim
theorem NodeRel.mono {m m' : Mem} (h : m.le m') {r : Nat} (hu : m.used r = true) (hb : ∀ b, Blk (m.loc r) b → m'.w.heap[b]? = m.w.heap[b]?) : ∀ {nd : Node}, NodeRel m r nd → NodeRel m' r nd
  | .row ty e l, ⟨xs, h1, h2⟩ => ⟨xs, by rw [h.loc r hu]; exact ownsRow_same h1 hb, h2.imp fun c x hc => hc.keep h.keep⟩
  | .var k c, ⟨g, blk, ty, u, h1, h2, h3, h4, h5, h6⟩ => ⟨g, blk, ty, u, by rw [h.loc r hu]; exact h1, (hb g (by rw [h1]; rfl)).trans h2, h3, h4, h5, SRel.mono h c h6⟩
  | .mp kk kv l, ⟨h1, h2, b, h3, h4⟩ => ⟨h1, h2, b, by rw [h.loc r hu]; exact h3, (hb b (by rw [h3]; rfl)).trans h4⟩
  | .deep ty e ts l, hd => by
    obtain ⟨A, c, hA⟩ := DeepR.hdr hd
    have hd' : DeepR m.w m.O ty e ts (m.loc r) l (fun _ _ => False) := hd
    show DeepR m'.w m'.O ty e ts (m'.loc r) l (fun _ _ => False)
    rw [h.loc r hu]
    refine hd'.keep h.keep (fun _ _ h => h) (fun b u0 h1 h2 => hb b (Blk_hdr h1 ?_ h2)) (fun i j u b h1 h2 _ => hb b (Blk_prt h1 h2))
    rw [hA] at h1; cases h1
    intro c; simp
  | .hole ty e ts l i j, ⟨v, hd, hh, hB, hnd⟩ => by
    refine ⟨v, hd.keep h.keep (fun _ _ h => h) (fun b u0 h1 h2 => hb b ((hB b).2 (.inl ⟨u0, h1, h2⟩))) (fun i' j' u b h1 h2 h3 => hb b ((hB b).2 (.inr ⟨i', j', u, h3, h1, h2⟩))), by rw [h.loc r hu]; exact hh, fun b => by rw [h.loc r hu]; exact hB b, by rw [h.loc r hu]; exact hnd⟩

/-- whether it is told, too, that no draw is undone -/
class Strict where
  t : Prop
variable [Strict]
/-- what a call may turn: nothing that was there, but what it was handed -/
structure Frame0 (w : World) (O : Nat → Prop) (w' : World) : Prop where
  os : w'.os = w.os
  tape : w'.tape = w.tape ∧ (Strict.t → w.drawn ≤ w'.drawn)
  output : w'.output = w.output
  size : w.heap.size ≤ w'.heap.size
  block : ∀ b, b < w.heap.size → ¬ O b → w'.heap[b]? = w.heap[b]?
theorem Frame0.refl (w : World) (O : Nat → Prop) : Frame0 w O w := ⟨rfl, ⟨rfl, fun _ => Nat.le_refl _⟩, rfl, Nat.le_refl _, fun _ _ _ => rfl⟩

/-- what a call was handed, and what it keeps away from -/
structure OX where
  o : Nat → Prop
  X : Nat → Prop
  fx : Nat → Option Value   -- parameters that stay as they are
instance : CoeFun OX (fun _ => Nat → Prop) := ⟨OX.o⟩
instance : Coe OX (Nat → Prop) := ⟨OX.o⟩

structure Ok (m : Mem) (w0 : World) (O0 : OX) : Prop where
  node : ∀ r nd, m.nodes r = some nd → NodeRel m r nd
  used : ∀ r nd, m.nodes r = some nd → m.used r = true
  inj : ∀ r r' nd nd' b, m.nodes r = some nd → m.nodes r' = some nd' → Blk (m.loc r) b → Blk (m.loc r') b → r = r'
  frame : Frame0 w0 O0 m.w
  base : ∀ b, m.own b → w0.heap.size ≤ b ∨ O0 b
  keeps : m.X = O0.X
  far : ∀ b, m.X b → b < w0.heap.size ∧ ¬ O0 b
theorem Ok.apart {m : Mem} {w0 : World} {O0 : OX} (h : Ok m w0 O0) {b : Nat} (h1 : m.own b) (h2 : m.X b) : False := by
  have := h.far b h2
  rcases h.base b h1 with h3 | h3
  · omega
  · exact this.2 h3

theorem Ok.change {m m' : Mem} {w0 : World} {O0 : OX} (h : Ok m w0 O0) (hX : m'.X = m.X) (hw : Frame0 m.w m.own m'.w)
    (hn : ∀ r nd, m'.nodes r = some nd → NodeRel m' r nd) (hu : ∀ r nd, m'.nodes r = some nd → m'.used r = true)
    (hO : ∀ b, m'.own b → m.own b ∨ m.w.heap.size ≤ b)
    (hi : ∀ r r' nd nd' b, m'.nodes r = some nd → m'.nodes r' = some nd' → Blk (m'.loc r) b → Blk (m'.loc r') b → r = r') : Ok m' w0 O0 where
  node := hn
  used := hu
  inj := hi
  frame := ⟨hw.os.trans h.frame.os, ⟨hw.tape.1.trans h.frame.tape.1, fun hs => Nat.le_trans (h.frame.tape.2 hs) (hw.tape.2 hs)⟩, hw.output.trans h.frame.output, Nat.le_trans h.frame.size hw.size, fun b hb ho =>
    (hw.block b (Nat.lt_of_lt_of_le hb h.frame.size) (fun hO' => by rcases h.base b hO' with h1 | h1; omega; exact ho h1)).trans (h.frame.block b hb ho)⟩
  base := fun b hb => by
    rcases hO b hb with h1 | h1
    · exact h.base b h1
    · exact .inl (Nat.le_trans h.frame.size h1)
  keeps := hX.trans h.keeps
  far := by rw [hX]; exact h.far

theorem blk_row {w : World} {ty size : Nat} {v : Value} {n : Nat} {xs : List Value} (h : w.ownsRow 0 ty size v n xs) {b : Nat} (hb : blkOf v = some b) : b < w.heap.size := by
  rcases h.2 with ⟨h3, _⟩ | ⟨g, cap, cur, h3, _, h4, _⟩
  · rw [h3] at hb; simp [blkOf] at hb
  · rw [h3] at hb; simp [blkOf] at hb; subst hb; exact lt_of_heap h4
theorem DS.lens {w : World} {O : Nat → Prop} : ∀ {k : Kind} {cs : List Value} {v : k.T} {us : List Value}, dOK k = true → DS w O k cs v us → us.length = nsl k ∧ (partsP k v).length = nsl k
  | .pair a b, cs, v, us, hd, h => by
    obtain ⟨c1, c2, u1, u2, h1, h2, h3, h4⟩ := h
    simp only [dOK, Bool.and_eq_true] at hd
    obtain ⟨k3, k4⟩ := DS.lens hd.2 h4
    have : u1.length = nsl a ∧ (partsP a v.1).length = nsl a := by
      cases a <;> simp only [leafOK, Bool.false_eq_true, false_and] at hd <;> simp only [DS] at h3 <;> first
        | (obtain ⟨A, n, c, e1, e2⟩ := h3; subst e1; subst e2; exact ⟨rfl, rfl⟩)
        | (rw [h3.1]; exact ⟨rfl, rfl⟩)
    simp only [h2, List.length_append, partsP, nsl, Nat.add_eq]
    omega
  | .slice _, cs, v, us, hd, h => by
    obtain ⟨A, n, c, e1, e2⟩ := h; subst e1; subst e2; exact ⟨rfl, rfl⟩
  | .unit, _, _, _, _, h => by rw [h.1]; exact ⟨rfl, rfl⟩
  | .int _, _, _, _, _, h => by rw [h.1]; exact ⟨rfl, rfl⟩
  | .bool, _, _, _, _, h => by rw [h.1]; exact ⟨rfl, rfl⟩
  | .str, _, _, _, _, h => by rw [h.1]; exact ⟨rfl, rfl⟩
  | .struct _, _, _, _, _, h => by rw [h.1]; exact ⟨rfl, rfl⟩
  | .arr _ _, _, _, _, _, h => by rw [h.1]; exact ⟨rfl, rfl⟩
  | .clo _ _, _, _, _, _, h => by rw [h.1]; exact ⟨rfl, rfl⟩
  | .ref _, _, _, _, _, h => by rw [h.1]; exact ⟨rfl, rfl⟩
  | .mpk _ _, _, _, _, _, h => by rw [h.1]; exact ⟨rfl, rfl⟩
  | .mbx _ _, _, _, _, _, h => by rw [h.1]; exact ⟨rfl, rfl⟩
  | .recB _ _ _, _, _, _, _, h => by rw [h.1]; exact ⟨rfl, rfl⟩
  | .err, _, _, _, _, h => by rw [h.1]; exact ⟨rfl, rfl⟩
  | .fnk, _, _, _, _, h => by rw [h.1]; exact ⟨rfl, rfl⟩
theorem deepB_struct {e : Kind} {ts : List Nat} (h : deepB e ts = true) : ∃ a, e = .struct a ∧ dOK a = true ∧ nsl a = ts.length := by
  cases e <;> simp [deepB] at h
  exact ⟨_, rfl, h.1.1, h.1.2⟩
theorem Rows.each {α : Type} {P : List Value → α → Prop} : ∀ {cs l}, Rows P cs l → ∀ x ∈ l, ∃ c, P c x
  | _, [], _, x, hx => by cases hx
  | _, y :: _, ⟨c1, c2, _, h1, h2⟩, x, hx => by
    rcases List.mem_cons.1 hx with rfl | hx
    · exact ⟨c1, h1⟩
    · exact Rows.each h2 x hx
theorem DE.lens {w : World} {O : Nat → Prop} {e : Kind} {ts : List Nat} (hB : deepB e ts = true) {cs : List Value} {p : e.T × List Value} (h : DE w O e cs p) : p.2.length = ts.length ∧ (partsE e p.1).length = ts.length := by
  obtain ⟨a, rfl, h1, h2⟩ := deepB_struct hB
  have := DS.lens h1 h
  rw [← h2]; exact this
theorem DE.part {w : World} {O : Nat → Prop} {e : Kind} {ts : List Nat} (hB : deepB e ts = true) {xs : List Value} {L : List (e.T × List Value)} (h : Rows (DE w O e) xs L) {i : Nat} {p : e.T × List Value} (hi : L[i]? = some p) {j : Nat} {u : Value} (hj : p.2[j]? = some u) : ∃ q ty, (partsE e p.1)[j]? = some q ∧ ts[j]? = some ty := by
  obtain ⟨c, hc⟩ := h.each p (List.mem_iff_getElem?.2 ⟨i, hi⟩)
  obtain ⟨h1, h2⟩ := DE.lens hB hc
  have hjl := (List.getElem?_eq_some_iff.1 hj).1
  exact ⟨_, _, List.getElem?_eq_getElem (by omega), List.getElem?_eq_getElem (by omega)⟩
theorem NodeRel.blk_lt {m : Mem} {r : Nat} : ∀ {nd : Node}, NodeRel m r nd → ∀ {b}, Blk (m.loc r) b → b < m.w.heap.size
  | .row ty e l, ⟨xs, h1, h2⟩, b, hb => by
    rcases h1.2 with ⟨h3, _⟩ | ⟨g, cap, cur, h3, _, h4, _⟩
    · rw [h3] at hb; simp [Blk, blkOf] at hb
    · rw [h3] at hb; simp [Blk, blkOf] at hb; subst hb; exact lt_of_heap h4
  | .var k c, ⟨g, blk, ty, u, h1, h2, _⟩, b, hb => by
    rw [h1] at hb; simp [Blk, blkOf] at hb; subst hb; exact lt_of_heap h2
  | .mp kk kv l, ⟨_, _, g, h1, h2⟩, b, hb => by
    rw [h1] at hb; simp [Blk, blkOf] at hb; subst hb; exact lt_of_heap h2
  | .deep ty e ts l, hd, b, hb => by
    obtain ⟨u0, xs, L, h1, h2, h3, h4, h5, h6, h7⟩ := hd
    obtain ⟨A, c, hA⟩ := ownsRow_slice h4
    rw [h1] at hb
    rcases (Blk_mk (by rw [hA]; simp)).1 hb with hb | ⟨us, hus, u, hu, hb⟩
    · exact blk_row h4 hb
    · obtain ⟨p, hp, rfl⟩ := List.mem_map.1 hus
      obtain ⟨i, hi⟩ := List.mem_iff_getElem?.1 hp
      obtain ⟨j, hj⟩ := List.mem_iff_getElem?.1 hu
      obtain ⟨q, ty', hq, hty⟩ := DE.part h2 h5 hi hj
      obtain ⟨xs', k1, k2⟩ := h6 i j p u q ty' hi hj hq hty (fun h => h)
      exact blk_row k1 hb
  | .hole ty e ts l i j, ⟨v, hd, hh, hB, _⟩, b, hb => by
    obtain ⟨u0, xs, L, h1, h2, h3, h4, h5, h6, h7⟩ := hd
    subst h1
    rcases (hB b).1 hb with ⟨u, k1, k2⟩ | ⟨i', j', u, k0, k1, k2⟩
    · rw [hdr_mk] at k1; cases k1
      exact blk_row h4 k2
    · rw [prt_mk, List.getElem?_map] at k1
      cases hi : L[i']? with
      | none => rw [hi] at k1; cases k1
      | some p =>
        rw [hi] at k1
        have hj : p.2[j']? = some u := k1
        obtain ⟨q, ty', hq, hty⟩ := DE.part h2 h5 hi hj
        obtain ⟨xs', k3, k4⟩ := h6 i' j' p u q ty' hi hj hq hty k0
        exact blk_row k3 k2
theorem Ok.O_lt {m : Mem} {w0 : World} {O0 : OX} (h : Ok m w0 O0) {b : Nat} (hb : m.O b) : b < m.w.heap.size := by
  rcases hb with ⟨r, nd, h1, h2⟩ | hb
  · exact (h.node r nd h1).blk_lt h2
  · exact Nat.lt_of_lt_of_le (h.far b hb).1 h.frame.size

/-- the world grows, nothing else -/
structure Grow (w w' : World) : Prop where
  os : w'.os = w.os
  tape : w'.tape = w.tape ∧ (Strict.t → w.drawn ≤ w'.drawn)
  output : w'.output = w.output
  size : w.heap.size ≤ w'.heap.size
  block : ∀ b, b < w.heap.size → w'.heap[b]? = w.heap[b]?
theorem Grow.refl (w : World) : Grow w w := ⟨rfl, ⟨rfl, fun _ => Nat.le_refl _⟩, rfl, Nat.le_refl _, fun _ _ => rfl⟩
theorem Grow.trans {a b c : World} (h : Grow a b) (k : Grow b c) : Grow a c :=
  ⟨k.os.trans h.os, ⟨k.tape.1.trans h.tape.1, fun hs => Nat.le_trans (h.tape.2 hs) (k.tape.2 hs)⟩, k.output.trans h.output, Nat.le_trans h.size k.size, fun i hi => (k.block i (Nat.lt_of_lt_of_le hi h.size)).trans (h.block i hi)⟩
theorem Grow.drew (w : World) : Grow w { w with drawn := w.drawn + 1 } := ⟨rfl, ⟨rfl, fun _ => Nat.le_succ _⟩, rfl, Nat.le_refl _, fun _ _ => rfl⟩
def Mem.at (m : Mem) (w : World) : Mem := { m with w := w }
theorem Mem.grow {m : Mem} {w' : World} (h : Grow m.w w') : m.le (m.at w') :=
  ⟨⟨fun b hb _ => h.block b hb, fun b _ hb => hb⟩, fun r h => h, fun r _ => rfl, fun r nd _ hn => .inr ⟨nd, hn, shape.refl nd⟩⟩
theorem Ok.grow {m : Mem} {w0 w' : World} {O0 : OX} (h : Ok m w0 O0) (hg : Grow m.w w') : Ok (m.at w') w0 O0 :=
  h.change rfl ⟨hg.os, hg.tape, hg.output, hg.size, fun b hb _ => hg.block b hb⟩
    (fun r nd hn => (h.node r nd hn).mono (Mem.grow hg) (h.used r nd hn) fun b hb => hg.block b ((h.node r nd hn).blk_lt hb))
    h.used (fun b hb => .inl hb) h.inj

structure Rel (st : St) (a : Act) (m : Mem) (w0 : World) (O0 : OX) (n : Nat) : Prop where
  nodes : m.nodes = st.nodes
  used : m.used = st.used
  ok : Ok m w0 O0
  slot : ∀ t, SRel m (st.slots t) (a.tmps.getD t undef)
  defers : a.defers = []
  size : a.tmps.size = n
  fixed : ∀ t v, O0.fx t = some v → a.tmps.getD t undef = v
theorem Rel.grow {st : St} {a : Act} {m : Mem} {w0 : World} {O0 : OX} {n : Nat} (hR : Rel st a m w0 O0 n) {w' : World} (hg : Grow m.w w') : Rel st a (m.at w') w0 O0 n :=
  ⟨hR.nodes, hR.used, hR.ok.grow hg, fun t => SRel.mono (Mem.grow hg) _ (hR.slot t), hR.defers, hR.size, hR.fixed⟩
end Go.Fm
