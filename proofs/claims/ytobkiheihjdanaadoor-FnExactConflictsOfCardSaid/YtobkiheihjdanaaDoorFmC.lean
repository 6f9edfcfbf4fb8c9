/- The functional machine: how its state stands to the Go machine's. -/
import Derived.Test.YtobkiheihjdanaaDoorFmB
set_option autoImplicit true
set_option linter.unusedVariables false
set_option linter.unusedSectionVars false
namespace Go.Fm

structure Mem where
  w : World
  nodes : Nat → Option Node
  used : Nat → Bool
  loc : Nat → Value
  X : Nat → Prop

def blkOf : Value → Option Nat
  | .slice (some a) _ _ => some a.block
  | .pointer (some a) => some a.block
  | .map (some b) => some b
  | _ => none
/-- blocks of our own -/
def Mem.own (m : Mem) (b : Nat) : Prop := ∃ r nd, m.nodes r = some nd ∧ blkOf (m.loc r) = some b
/-- blocks that values keep away from: our own, and a caller's -/
def Mem.O (m : Mem) (b : Nat) : Prop := m.own b ∨ m.X b

/-- a register that may hold a value of the kind -/
def Form (k : Kind) (u : Value) : Prop := if aggB k = true then ∃ cs, u = .agg cs ∧ cs.size = width k ∧ ∀ c ∈ cs.toList, c.oneCell' = true else u.oneCell' = true ∧ width k = 1
theorem Form.size {k : Kind} {u : Value} (h : Form k u) : u.cells.size = width k := by
  unfold Form at h
  by_cases hc : aggB k = true
  · rw [if_pos hc] at h; obtain ⟨cs, rfl, h, _⟩ := h; exact h
  · rw [if_neg hc] at h; obtain ⟨h1, h⟩ := h
    cases u <;> simp [Value.oneCell'] at h1 <;> simp [Value.cells, h]
theorem Form.ones {k : Kind} {u : Value} (h : Form k u) : ∀ c ∈ u.cells.toList, c.oneCell' = true := by
  unfold Form at h
  by_cases hc : aggB k = true
  · rw [if_pos hc] at h; obtain ⟨cs, rfl, _, h⟩ := h; exact h
  · rw [if_neg hc] at h; obtain ⟨h1, h⟩ := h
    cases u <;> simp [Value.oneCell'] at h1 <;> simp [Value.cells, Value.oneCell']
/-- the register over cells -/
def regOf (k : Kind) (cs : List Value) : Value := if aggB k = true then .agg cs.toArray else cs.headD undef
theorem Form.reg {k : Kind} {u : Value} (h : Form k u) : regOf k u.cells.toList = u := by
  unfold Form at h; unfold regOf
  by_cases hc : aggB k = true
  · rw [if_pos hc] at *; obtain ⟨cs, rfl, h⟩ := h; simp [Value.cells]
  · rw [if_neg hc] at *; obtain ⟨h1, h⟩ := h
    cases u <;> simp [Value.oneCell'] at h1 <;> simp [Value.cells]
theorem Form.one {k : Kind} {u : Value} (h : Form k u) (hc : aggB k = false) : u.oneCell' = true := by
  unfold Form at h; rw [if_neg (by simp [hc])] at h; exact h.1
theorem Form.agg {k : Kind} {u : Value} (h : Form k u) (hc : aggB k = true) : ∃ cs, u = .agg cs ∧ cs.size = width k ∧ ∀ c ∈ cs.toList, c.oneCell' = true := by
  unfold Form at h; rw [if_pos hc] at h; exact h
theorem Reg.form {w : World} {O : Nat → Prop} {k : Kind} {u : Value} {v : k.T} (h : Reg w O k u v) : Form k u := by
  have hl := h.cells.length
  unfold Reg at h; unfold Form
  by_cases hc : aggB k = true
  · rw [if_pos hc] at *; obtain ⟨cs, rfl, h⟩ := h; exact ⟨cs, rfl, by simpa [Value.cells] using hl, h.one⟩
  · rw [if_neg hc] at *; exact ⟨h.1, by simpa using h.2.length.symm⟩
theorem Reg.of {w : World} {O : Nat → Prop} {k : Kind} {u : Value} {v : k.T} (hf : Form k u) (h : Cells w O k u.cells.toList v) : Reg w O k u v := by
  unfold Form at hf; unfold Reg
  by_cases hc : aggB k = true
  · rw [if_pos hc] at *; obtain ⟨cs, rfl, _⟩ := hf; exact ⟨cs, rfl, h⟩
  · rw [if_neg hc] at *; obtain ⟨h1, _⟩ := hf
    refine ⟨h1, ?_⟩
    cases u <;> simp [Value.oneCell'] at h1 <;> simpa [Value.cells] using h
theorem Form.of_cells {w : World} {O : Nat → Prop} {k : Kind} {cs : List Value} {v : k.T} (h : Cells w O k cs v) (hk : aggB k = true ∨ width k = 1) : Form k (regOf k cs) ∧ (regOf k cs).cells.toList = cs := by
  have hl := h.length
  unfold Form regOf
  by_cases hc : aggB k = true
  · simp only [if_pos hc]; exact ⟨⟨_, rfl, by simpa using hl, by simpa using h.one⟩, by simp [Value.cells]⟩
  · simp only [if_neg hc]
    have hw := hk.resolve_left hc
    rw [hw] at hl
    obtain ⟨u, rfl⟩ := List.length_eq_one_iff.1 hl
    have h1 := h.one u (by simp)
    refine ⟨⟨by simpa using h1, hw⟩, ?_⟩
    cases u <;> simp [Value.oneCell'] at h1 <;> simp [Value.cells]
theorem Form.of_len {k : Kind} {cs : List Value} (hl : cs.length = width k) (h1 : ∀ u ∈ cs, u.oneCell' = true) (hk : aggB k = true ∨ width k = 1) : Form k (regOf k cs) ∧ (regOf k cs).cells.toList = cs := by
  unfold Form regOf
  by_cases hc : aggB k = true
  · simp only [if_pos hc]; exact ⟨⟨_, rfl, by simpa using hl, by simpa using h1⟩, by simp [Value.cells]⟩
  · simp only [if_neg hc]
    have hw := hk.resolve_left hc
    rw [hw] at hl
    obtain ⟨u, rfl⟩ := List.length_eq_one_iff.1 hl
    have h1 := h1 u (by simp)
    refine ⟨⟨by simpa using h1, hw⟩, ?_⟩
    cases u <;> simp [Value.oneCell'] at h1 <;> simp [Value.cells]

def fitsD (k : Kind) (x : Slot) : Bool := (match x with | .dead => true | _ => false) || fits k x
def notPair : Kind → Prop | .pair _ _ => False | _ => True
def catCells (us : List Value) : List Value := (us.map fun u => u.cells.toList).flatten

mutual
def SRel (m : Mem) : Slot → Value → Prop
  | .dead, _ => True
  | .val k v, u => Reg m.w m.O k u v
  | .prop p d, u => u = .bool (@decide p d)
  | .nils, u => u = .slice none 0 0
  | .undef, u => u = Go.undef
  | .root r, u => m.used r = true ∧ (∃ A n c, u = .slice A n c) ∧ ∀ ty e l, m.nodes r = some (.row ty e l) → u = m.loc r
  | .sub r lo hi, u => m.used r = true ∧ ∀ ty e l, m.nodes r = some (.row ty e l) → 0 ≤ lo ∧ lo ≤ hi ∧ hi ≤ (l.length : Int) ∧
      ∃ A c, u = .slice A (hi - lo).toNat c ∧ (hi - lo).toNat ≤ c ∧ (lo < hi → ∃ g n cap, m.loc r = .slice (some ⟨g, 0, none⟩) n cap ∧ A = some ⟨g, lo.toNat * width e, none⟩) ∧ (lo = 0 → ∃ n, m.loc r = .slice A n c)
  | .box b path, u => m.used b = true ∧ ∀ k c, m.nodes b = some (.var k c) → ∃ g o k', m.loc b = .pointer (some ⟨g, 0, none⟩) ∧ pathOff k path = some (o, k') ∧ u = .pointer (some ⟨g, o, none⟩)
  | .elem r i path, u => m.used r = true ∧ ∀ ty e l, m.nodes r = some (.row ty e l) → 0 ≤ i ∧ i < (l.length : Int) ∧
      ∃ g n cap o k', m.loc r = .slice (some ⟨g, 0, none⟩) n cap ∧ pathOff e path = some (o, k') ∧ u = .pointer (some ⟨g, i.toNat * width e + o, none⟩)
  | .cell b i, u => m.used b = true ∧ ∀ n e c, m.nodes b = some (.var (.arr n e) c) → 0 ≤ i ∧ i < (n : Int) ∧ ∃ g, m.loc b = .pointer (some ⟨g, 0, none⟩) ∧ u = .pointer (some ⟨g, i.toNat * width e, none⟩)
  | .mref r, u => m.used r = true ∧ (∃ b, u = .map b) ∧ ∀ kk kv l, m.nodes r = some (.mp kk kv l) → u = m.loc r
  | .agg k l, u => ∃ a us, k = .struct a ∧ u = .agg (catCells us).toArray ∧ SRels m a l us
  | .tup l, u => ∃ us, u = .tuple us.toArray ∧ STup m l us
def SRels (m : Mem) : Kind → List Slot → List Value → Prop
  | k, [], us => k = .unit ∧ us = []
  | k, x :: l, us => ∃ u us', us = u :: us' ∧ SRel m x u ∧ ((∃ a b, k = .pair a b ∧ l ≠ [] ∧ Form a u ∧ fitsD a x = true ∧ SRels m b l us') ∨ (notPair k ∧ k ≠ .unit ∧ l = [] ∧ us' = [] ∧ Form k u ∧ fitsD k x = true))
def STup (m : Mem) : List Slot → List Value → Prop
  | [], us => us = []
  | x :: l, us => ∃ u us', us = u :: us' ∧ SRel m x u ∧ STup m l us'
end

def shape : Node → Node → Prop
  | .row ty e l, .row ty' e' l' => ty = ty' ∧ e = e' ∧ l.length = l'.length
  | .var k _, .var k' _ => k = k'
  | .mp kk kv _, .mp kk' kv' _ => kk = kk' ∧ kv = kv'
  | _, _ => False
theorem shape.refl : ∀ nd, shape nd nd
  | .row _ _ _ => ⟨rfl, rfl, rfl⟩
  | .var _ _ => rfl
  | .mp _ _ _ => ⟨rfl, rfl⟩

structure Mem.le (m m' : Mem) : Prop where
  keep : Keep m.w m.O m'.w m'.O
  used : ∀ r, m.used r = true → m'.used r = true
  loc : ∀ r, m.used r = true → m'.loc r = m.loc r
  node : ∀ r nd', m.used r = true → m'.nodes r = some nd' → ∃ nd, m.nodes r = some nd ∧ shape nd nd'
theorem Mem.le.row {m m' : Mem} (h : m.le m') {r ty e l'} (hu : m.used r = true) (hn : m'.nodes r = some (.row ty e l')) : ∃ l, m.nodes r = some (.row ty e l) ∧ l.length = l'.length := by
  obtain ⟨nd, h1, h2⟩ := h.node r _ hu hn
  cases nd with
  | row ty2 e2 l2 => obtain ⟨rfl, rfl, h3⟩ := h2; exact ⟨l2, h1, h3⟩
  | var => exact h2.elim
  | mp => exact h2.elim
theorem Mem.le.mp {m m' : Mem} (h : m.le m') {r kk kv l'} (hu : m.used r = true) (hn : m'.nodes r = some (.mp kk kv l')) : ∃ l, m.nodes r = some (.mp kk kv l) := by
  obtain ⟨nd, h1, h2⟩ := h.node r _ hu hn
  cases nd with
  | row => exact h2.elim
  | var => exact h2.elim
  | mp kk2 kv2 l2 => obtain ⟨rfl, rfl⟩ := h2; exact ⟨l2, h1⟩
theorem Mem.le.var {m m' : Mem} (h : m.le m') {r k c'} (hu : m.used r = true) (hn : m'.nodes r = some (.var k c')) : ∃ c, m.nodes r = some (.var k c) := by
  obtain ⟨nd, h1, h2⟩ := h.node r _ hu hn
  cases nd with
  | row => exact h2.elim
  | var k2 c2 => have : k2 = k := h2; subst this; exact ⟨c2, h1⟩
  | mp => exact h2.elim

mutual
theorem SRel.mono {m m' : Mem} (h : m.le m') : ∀ (s : Slot) {u : Value}, SRel m s u → SRel m' s u
  | .dead, _, _ => by simp [SRel]
  | .val k v, u, hs => by simp only [SRel] at *; exact hs.keep h.keep
  | .prop p d, u, hs => by simpa only [SRel] using hs
  | .nils, u, hs => by simpa only [SRel] using hs
  | .undef, u, hs => by simpa only [SRel] using hs
  | .root r, u, hs => by
    simp only [SRel] at *
    refine ⟨h.used r hs.1, hs.2.1, fun ty e l hn => ?_⟩
    obtain ⟨l0, h0, _⟩ := h.row hs.1 hn
    rw [h.loc r hs.1]; exact hs.2.2 ty e l0 h0
  | .sub r lo hi, u, hs => by
    simp only [SRel] at *
    refine ⟨h.used r hs.1, fun ty e l hn => ?_⟩
    obtain ⟨l0, h0, h1⟩ := h.row hs.1 hn
    rw [h.loc r hs.1, ← h1]; exact hs.2 ty e l0 h0
  | .box b path, u, hs => by
    simp only [SRel] at *
    refine ⟨h.used b hs.1, fun k c hn => ?_⟩
    obtain ⟨c0, h0⟩ := h.var hs.1 hn
    rw [h.loc b hs.1]; exact hs.2 k c0 h0
  | .elem r i path, u, hs => by
    simp only [SRel] at *
    refine ⟨h.used r hs.1, fun ty e l hn => ?_⟩
    obtain ⟨l0, h0, h1⟩ := h.row hs.1 hn
    rw [h.loc r hs.1, ← h1]; exact hs.2 ty e l0 h0
  | .cell b i, u, hs => by
    simp only [SRel] at *
    refine ⟨h.used b hs.1, fun n e c hn => ?_⟩
    obtain ⟨c0, h0⟩ := h.var hs.1 hn
    rw [h.loc b hs.1]; exact hs.2 n e c0 h0
  | .mref r, u, hs => by
    simp only [SRel] at *
    refine ⟨h.used r hs.1, hs.2.1, fun kk kv l hn => ?_⟩
    obtain ⟨l0, h0⟩ := h.mp hs.1 hn
    rw [h.loc r hs.1]; exact hs.2.2 kk kv l0 h0
  | .agg k l, u, hs => by
    simp only [SRel] at *
    obtain ⟨a, us, h1, h2, h3⟩ := hs
    exact ⟨a, us, h1, h2, SRels.mono h l h3⟩
  | .tup l, u, hs => by
    simp only [SRel] at *
    obtain ⟨us, h1, h2⟩ := hs
    exact ⟨us, h1, STup.mono h l h2⟩
theorem SRels.mono {m m' : Mem} (h : m.le m') : ∀ (l : List Slot) {k : Kind} {us : List Value}, SRels m k l us → SRels m' k l us
  | [], k, us, hs => by simpa only [SRels] using hs
  | x :: l, k, us, hs => by
    simp only [SRels] at *
    obtain ⟨u, us', h1, h2, h3⟩ := hs
    refine ⟨u, us', h1, SRel.mono h x h2, h3.imp ?_ id⟩
    rintro ⟨a, b, h4, h5, h6, h7, h8⟩
    exact ⟨a, b, h4, h5, h6, h7, SRels.mono h l h8⟩
theorem STup.mono {m m' : Mem} (h : m.le m') : ∀ (l : List Slot) {us : List Value}, STup m l us → STup m' l us
  | [], us, hs => by simpa only [STup] using hs
  | x :: l, us, hs => by
    simp only [STup] at *
    obtain ⟨u, us', h1, h2, h3⟩ := hs
    exact ⟨u, us', h1, SRel.mono h x h2, STup.mono h l h3⟩
end

/-- a map's object -/
def oneV : (k : Kind) → k.T → Value
  | .int ik, n => .int ik n | .bool, b => .bool b | .str, s => .string s | _, _ => undef
def mapEnts (kk kv : Kind) : Nat → List (kk.T × kv.T) → List MapEntry
  | _, [] => []
  | i, p :: r => { key := oneV kk p.1, val := oneV kv p.2, born := i } :: mapEnts kk kv (i + 1) r
def mapObj (kk kv : Kind) (l : List (kk.T × kv.T)) : Obj := .map (mapEnts kk kv 0 l).toArray l.length
def NodeRel (m : Mem) (r : Nat) : Node → Prop
  | .row ty e l => ∃ xs, m.w.ownsRow 0 ty (width e) (m.loc r) l.length xs ∧ Rows (Cells m.w m.O e) xs l
  | .var k c => ∃ g blk ty u, m.loc r = .pointer (some ⟨g, 0, none⟩) ∧ m.w.heap[g]? = some (.cells blk ty (0, 0)) ∧ u.cells = blk ∧ Form k u ∧ fitsD k c = true ∧ SRel m c u
  | .mp kk kv l => keyK kk = true ∧ elemK kv = true ∧ ∃ b, m.loc r = .map (some b) ∧ m.w.heap[b]? = some (mapObj kk kv l)

theorem ownsRow_same {w w' : World} {ty size : Nat} {v : Value} {n : Nat} {xs : List Value} (h : w.ownsRow 0 ty size v n xs) (hb : ∀ b, blkOf v = some b → w'.heap[b]? = w.heap[b]?) : w'.ownsRow 0 ty size v n xs := by
  refine ⟨h.1, h.2.imp id ?_⟩
  rintro ⟨g, cap, cur, rfl, h1, h2, h3⟩
  exact ⟨g, cap, cur, rfl, h1, (hb g rfl).trans h2, h3⟩
theorem NodeRel.mono {m m' : Mem} (h : m.le m') {r : Nat} (hu : m.used r = true) (hb : ∀ b, blkOf (m.loc r) = some b → m'.w.heap[b]? = m.w.heap[b]?) : ∀ {nd : Node}, NodeRel m r nd → NodeRel m' r nd
  | .row ty e l, ⟨xs, h1, h2⟩ => ⟨xs, by rw [h.loc r hu]; exact ownsRow_same h1 hb, h2.imp fun c x hc => hc.keep h.keep⟩
  | .var k c, ⟨g, blk, ty, u, h1, h2, h3, h4, h5, h6⟩ => ⟨g, blk, ty, u, by rw [h.loc r hu]; exact h1, (hb g (by rw [h1]; rfl)).trans h2, h3, h4, h5, SRel.mono h c h6⟩
  | .mp kk kv l, ⟨h1, h2, b, h3, h4⟩ => ⟨h1, h2, b, by rw [h.loc r hu]; exact h3, (hb b (by rw [h3]; rfl)).trans h4⟩

/-- whether it is told, too, that no draw is undone -/
class Strict where
  t : Prop
variable [Strict]
/-- what a call may turn: nothing that was there, but what it was handed -/
structure Frame0 (w : World) (O : Nat → Prop) (w' : World) : Prop where
  os : w'.os = w.os
  tape : w'.tape = w.tape ∧ (Strict.t → w.drawn ≤ w'.drawn)
  output : w'.output = w.output
  size : w.heap.size ≤ w'.heap.size
  block : ∀ b, b < w.heap.size → ¬ O b → w'.heap[b]? = w.heap[b]?
theorem Frame0.refl (w : World) (O : Nat → Prop) : Frame0 w O w := ⟨rfl, ⟨rfl, fun _ => Nat.le_refl _⟩, rfl, Nat.le_refl _, fun _ _ _ => rfl⟩

/-- what a call was handed, and what it keeps away from -/
structure OX where
  o : Nat → Prop
  X : Nat → Prop
  fx : Nat → Option Value   -- parameters that stay as they are
instance : CoeFun OX (fun _ => Nat → Prop) := ⟨OX.o⟩
instance : Coe OX (Nat → Prop) := ⟨OX.o⟩

structure Ok (m : Mem) (w0 : World) (O0 : OX) : Prop where
  node : ∀ r nd, m.nodes r = some nd → NodeRel m r nd
  used : ∀ r nd, m.nodes r = some nd → m.used r = true
  inj : ∀ r r' nd nd' b, m.nodes r = some nd → m.nodes r' = some nd' → blkOf (m.loc r) = some b → blkOf (m.loc r') = some b → r = r'
  frame : Frame0 w0 O0 m.w
  base : ∀ b, m.own b → w0.heap.size ≤ b ∨ O0 b
  keeps : m.X = O0.X
  far : ∀ b, m.X b → b < w0.heap.size ∧ ¬ O0 b
theorem Ok.apart {m : Mem} {w0 : World} {O0 : OX} (h : Ok m w0 O0) {b : Nat} (h1 : m.own b) (h2 : m.X b) : False := by
  have := h.far b h2
  rcases h.base b h1 with h3 | h3
  · omega
  · exact this.2 h3

theorem Ok.change {m m' : Mem} {w0 : World} {O0 : OX} (h : Ok m w0 O0) (hX : m'.X = m.X) (hw : Frame0 m.w m.own m'.w)
    (hn : ∀ r nd, m'.nodes r = some nd → NodeRel m' r nd) (hu : ∀ r nd, m'.nodes r = some nd → m'.used r = true)
    (hO : ∀ b, m'.own b → m.own b ∨ m.w.heap.size ≤ b)
    (hi : ∀ r r' nd nd' b, m'.nodes r = some nd → m'.nodes r' = some nd' → blkOf (m'.loc r) = some b → blkOf (m'.loc r') = some b → r = r') : Ok m' w0 O0 where
  node := hn
  used := hu
  inj := hi
  frame := ⟨hw.os.trans h.frame.os, ⟨hw.tape.1.trans h.frame.tape.1, fun hs => Nat.le_trans (h.frame.tape.2 hs) (hw.tape.2 hs)⟩, hw.output.trans h.frame.output, Nat.le_trans h.frame.size hw.size, fun b hb ho =>
    (hw.block b (Nat.lt_of_lt_of_le hb h.frame.size) (fun hO' => by rcases h.base b hO' with h1 | h1; omega; exact ho h1)).trans (h.frame.block b hb ho)⟩
  base := fun b hb => by
    rcases hO b hb with h1 | h1
    · exact h.base b h1
    · exact .inl (Nat.le_trans h.frame.size h1)
  keeps := hX.trans h.keeps
  far := by rw [hX]; exact h.far

theorem NodeRel.blk_lt {m : Mem} {r : Nat} : ∀ {nd : Node}, NodeRel m r nd → ∀ {b}, blkOf (m.loc r) = some b → b < m.w.heap.size
  | .row ty e l, ⟨xs, h1, h2⟩, b, hb => by
    rcases h1.2 with ⟨h3, _⟩ | ⟨g, cap, cur, h3, _, h4, _⟩
    · rw [h3] at hb; simp [blkOf] at hb
    · rw [h3] at hb; simp [blkOf] at hb; subst hb; exact lt_of_heap h4
  | .var k c, ⟨g, blk, ty, u, h1, h2, _⟩, b, hb => by
    rw [h1] at hb; simp [blkOf] at hb; subst hb; exact lt_of_heap h2
  | .mp kk kv l, ⟨_, _, g, h1, h2⟩, b, hb => by
    rw [h1] at hb; simp [blkOf] at hb; subst hb; exact lt_of_heap h2
theorem Ok.O_lt {m : Mem} {w0 : World} {O0 : OX} (h : Ok m w0 O0) {b : Nat} (hb : m.O b) : b < m.w.heap.size := by
  rcases hb with ⟨r, nd, h1, h2⟩ | hb
  · exact (h.node r nd h1).blk_lt h2
  · exact Nat.lt_of_lt_of_le (h.far b hb).1 h.frame.size

/-- the world grows, nothing else -/
structure Grow (w w' : World) : Prop where
  os : w'.os = w.os
  tape : w'.tape = w.tape ∧ (Strict.t → w.drawn ≤ w'.drawn)
  output : w'.output = w.output
  size : w.heap.size ≤ w'.heap.size
  block : ∀ b, b < w.heap.size → w'.heap[b]? = w.heap[b]?
theorem Grow.refl (w : World) : Grow w w := ⟨rfl, ⟨rfl, fun _ => Nat.le_refl _⟩, rfl, Nat.le_refl _, fun _ _ => rfl⟩
theorem Grow.trans {a b c : World} (h : Grow a b) (k : Grow b c) : Grow a c :=
  ⟨k.os.trans h.os, ⟨k.tape.1.trans h.tape.1, fun hs => Nat.le_trans (h.tape.2 hs) (k.tape.2 hs)⟩, k.output.trans h.output, Nat.le_trans h.size k.size, fun i hi => (k.block i (Nat.lt_of_lt_of_le hi h.size)).trans (h.block i hi)⟩
theorem Grow.drew (w : World) : Grow w { w with drawn := w.drawn + 1 } := ⟨rfl, ⟨rfl, fun _ => Nat.le_succ _⟩, rfl, Nat.le_refl _, fun _ _ => rfl⟩
def Mem.at (m : Mem) (w : World) : Mem := { m with w := w }
theorem Mem.grow {m : Mem} {w' : World} (h : Grow m.w w') : m.le (m.at w') :=
  ⟨⟨fun b hb _ => h.block b hb, fun b _ hb => hb⟩, fun r h => h, fun r _ => rfl, fun r nd _ hn => ⟨nd, hn, shape.refl nd⟩⟩
theorem Ok.grow {m : Mem} {w0 w' : World} {O0 : OX} (h : Ok m w0 O0) (hg : Grow m.w w') : Ok (m.at w') w0 O0 :=
  h.change rfl ⟨hg.os, hg.tape, hg.output, hg.size, fun b hb _ => hg.block b hb⟩
    (fun r nd hn => (h.node r nd hn).mono (Mem.grow hg) (h.used r nd hn) fun b hb => hg.block b ((h.node r nd hn).blk_lt hb))
    h.used (fun b hb => .inl hb) h.inj

structure Rel (st : St) (a : Act) (m : Mem) (w0 : World) (O0 : OX) (n : Nat) : Prop where
  nodes : m.nodes = st.nodes
  used : m.used = st.used
  ok : Ok m w0 O0
  slot : ∀ t, SRel m (st.slots t) (a.tmps.getD t undef)
  defers : a.defers = []
  size : a.tmps.size = n
  fixed : ∀ t v, O0.fx t = some v → a.tmps.getD t undef = v
theorem Rel.grow {st : St} {a : Act} {m : Mem} {w0 : World} {O0 : OX} {n : Nat} (hR : Rel st a m w0 O0 n) {w' : World} (hg : Grow m.w w') : Rel st a (m.at w') w0 O0 n :=
  ⟨hR.nodes, hR.used, hR.ok.grow hg, fun t => SRel.mono (Mem.grow hg) _ (hR.slot t), hR.defers, hR.size, hR.fixed⟩
end Go.Fm
