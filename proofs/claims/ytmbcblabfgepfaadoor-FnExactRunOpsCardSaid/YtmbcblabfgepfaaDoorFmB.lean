/- The functional machine: how its values lie in memory. -/
import Derived.Test.YtmbcblabfgepfaaDoorFmA
import Derived.Laws.AppendOwn
import Derived.Laws.MakeOwn
import Derived.Below
set_option autoImplicit true
set_option linter.unusedVariables false
namespace Go.Fm

def Rows {α : Type} (P : List Value → α → Prop) : List Value → List α → Prop
  | cs, [] => cs = []
  | cs, x :: l => ∃ c1 c2, cs = c1 ++ c2 ∧ P c1 x ∧ Rows P c2 l

/-- a map's object -/
def oneV : (k : Kind) → k.T → Value
  | .int ik, n => .int ik n | .bool, b => .bool b | .str, s => .string s | _, _ => undef
def mapEnts (kk kv : Kind) : Nat → List (kk.T × kv.T) → List MapEntry
  | _, [] => []
  | i, p :: r => { key := oneV kk p.1, val := oneV kv p.2, born := i } :: mapEnts kk kv (i + 1) r
def mapObj (kk kv : Kind) (l : List (kk.T × kv.T)) : Obj := .map (mapEnts kk kv 0 l).toArray l.length
/-- cells that tell a value of a kind; what they point to lies in memory that is not in O -/
def Cells (w : World) (O : Nat → Prop) : (k : Kind) → List Value → k.T → Prop
  | .unit, cs, _ => cs = []
  | .int ik, cs, v => cs = [.int ik v]
  | .bool, cs, v => cs = [.bool v]
  | .str, cs, v => cs = [.string v]
  | .pair a b, cs, v => ∃ c1 c2, cs = c1 ++ c2 ∧ Cells w O a c1 v.1 ∧ Cells w O b c2 v.2
  | .struct a, cs, v => Cells w O a cs v
  | .slice e, cs, v => ∃ A cap, cs = [.slice A (List.length v) cap] ∧ List.length v ≤ cap ∧
      (List.length v = 0 ∨ ∃ b off blk ty fr, A = some ⟨b, off, none⟩ ∧ w.heap[b]? = some (.cells blk ty fr) ∧ ¬ O b ∧ Rows (Cells w O e) ((blk.toList.drop off).take (List.length v * width e)) v)
  | .arr n e, cs, v => List.length v = n ∧ Rows (Cells w O e) cs v
  | .clo g c, cs, v => ∃ caps : List Value, cs = [.func (.func g) #[] caps.toArray] ∧ Cells w O c caps v
  | .ref a, cs, v => ∃ b off blk ty fr, cs = [.pointer (some ⟨b, off, none⟩)] ∧ w.heap[b]? = some (.cells blk ty fr) ∧ ¬ O b ∧ Cells w O a ((blk.toList.drop off).take (width a)) v
  | .mpk a c, cs, v => ∃ b, cs = [.map (some b)] ∧ keyK a = true ∧ elemK c = true ∧ w.heap[b]? = some (mapObj a c v) ∧ ¬ O b
  | .mbx a c, cs, v => ∃ B b blk ty fr, cs = [.pointer (some ⟨B, 0, none⟩)] ∧ w.heap[B]? = some (.cells blk ty fr) ∧ blk[0]? = some (.map (some b)) ∧ ¬ O B ∧ keyK a = true ∧ elemK c = true ∧ w.heap[b]? = some (mapObj a c v) ∧ ¬ O b
  | .recB g p c, cs, v => ∃ B caps ty fr, cs = [.pointer (some ⟨B, 0, none⟩)] ∧ w.heap[B]? = some (.cells #[.func (.func g) #[] (List.toArray caps)] ty fr) ∧ ¬ O B ∧ caps[p]? = some (.pointer (some ⟨B, 0, none⟩)) ∧ Cells w O c (caps.eraseIdx p) v
  | .err, cs, v => ∃ u, cs = [u] ∧ ((v = false ∧ u = .nilIface) ∨ (v = true ∧ ∃ t p, u = .iface t p))
  | .fnk, cs, v => ∃ u, cs = [u] ∧ (u = .nilFunc ∨ ∃ g x y, u = .func g x y)

namespace Rows
variable {α : Type} {P Q : List Value → α → Prop} {n : Nat}
theorem imp (h : ∀ c x, P c x → Q c x) : ∀ {cs l}, Rows P cs l → Rows Q cs l
  | _, [], hr => hr
  | _, _ :: _, ⟨c1, c2, e, h1, h2⟩ => ⟨c1, c2, e, h _ _ h1, imp h h2⟩
theorem imp' : ∀ {cs l}, (∀ c x, x ∈ l → P c x → Q c x) → Rows P cs l → Rows Q cs l
  | _, [], _, hr => hr
  | _, _ :: _, h, ⟨c1, c2, e, h1, h2⟩ => ⟨c1, c2, e, h _ _ (by simp) h1, imp' (fun c x hx => h c x (by simp [hx])) h2⟩
theorem length (hP : ∀ c x, P c x → c.length = n) : ∀ {cs l}, Rows P cs l → cs.length = l.length * n
  | _, [], hr => by simp [Rows] at hr; simp [hr]
  | _, _ :: _, ⟨c1, c2, e, h1, h2⟩ => by
    rw [e, List.length_append, hP _ _ h1, length hP h2, List.length_cons, Nat.add_mul]; omega
theorem append : ∀ {cs l ds m}, Rows P cs l → Rows P ds m → Rows P (cs ++ ds) (l ++ m)
  | _, [], _, _, hr, hs => by simp [Rows] at hr; simpa [hr] using hs
  | _, _ :: _, _, _, ⟨c1, c2, e, h1, h2⟩, hs => ⟨c1, c2 ++ _, by rw [e, List.append_assoc], h1, append h2 hs⟩
theorem nil : Rows P [] [] := rfl
theorem one {c : List Value} {x : α} (h : P c x) : Rows P c [x] := ⟨c, [], by simp, h, rfl⟩
theorem drop (hP : ∀ c x, P c x → c.length = n) : ∀ {cs l} (i : Nat), Rows P cs l → Rows P (cs.drop (i * n)) (l.drop i)
  | _, _, 0, hr => by simpa using hr
  | _, [], i + 1, hr => by simp [Rows] at hr; simp [hr, Rows]
  | _, _ :: _, i + 1, ⟨c1, c2, e, h1, h2⟩ => by
    have h3 := drop hP i h2
    rw [e, List.drop_succ_cons, Nat.succ_mul, Nat.add_comm, List.drop_append, hP _ _ h1]
    rw [List.drop_eq_nil_of_le (by rw [hP _ _ h1]; omega), List.nil_append]
    rw [show n + i * n - n = i * n by omega]; exact h3
theorem take (hP : ∀ c x, P c x → c.length = n) : ∀ {cs l} (i : Nat), Rows P cs l → Rows P (cs.take (i * n)) (l.take i)
  | _, _, 0, hr => by simp [Rows]
  | _, [], i + 1, hr => by simp [Rows] at hr; simp [hr, Rows]
  | _, _ :: _, i + 1, ⟨c1, c2, e, h1, h2⟩ => by
    refine ⟨c1, c2.take (i * n), ?_, h1, take hP i h2⟩
    rw [e, Nat.succ_mul, Nat.add_comm, List.take_append, hP _ _ h1, List.take_of_length_le (by rw [hP _ _ h1]; omega)]
    rw [show n + i * n - n = i * n by omega]
theorem get (hP : ∀ c x, P c x → c.length = n) {cs : List Value} {l : List α} (i : Nat) (hr : Rows P cs l) (hi : i < l.length) : P ((cs.drop (i * n)).take n) l[i] := by
  have h1 := drop hP i hr
  rw [List.drop_eq_getElem_cons hi] at h1
  obtain ⟨c1, c2, e, h1, _⟩ := h1
  rw [e, List.take_append, hP _ _ h1, Nat.sub_self, List.take_zero, List.append_nil, List.take_of_length_le (by rw [hP _ _ h1]; omega)]
  exact h1
theorem set (hP : ∀ c x, P c x → c.length = n) {cs : List Value} {l : List α} (i : Nat) (hr : Rows P cs l) (hi : i < l.length) {c : List Value} {x : α} (h : P c x) : Rows P (cs.take (i * n) ++ c ++ cs.drop ((i + 1) * n)) (l.set i x) := by
  rw [List.set_eq_take_append_cons_drop, if_pos hi]
  rw [List.append_assoc]
  exact append (take hP i hr) (append (one h) (drop hP (i + 1) hr))
theorem replicate {c : List Value} {x : α} (h : P c x) : ∀ m, Rows P (List.replicate m c).flatten (List.replicate m x)
  | 0 => by simp [Rows]
  | m + 1 => ⟨c, (List.replicate m c).flatten, by simp [List.replicate_succ], h, replicate h m⟩
theorem mem : ∀ {cs l}, Rows P cs l → ∀ {u}, u ∈ cs → ∃ c x, x ∈ l ∧ P c x ∧ u ∈ c
  | _, [], hr, _, hu => by simp [Rows] at hr; simp [hr] at hu
  | _, x :: _, ⟨c1, c2, e, h1, h2⟩, u, hu => by
    rw [e, List.mem_append] at hu
    rcases hu with hu | hu
    · exact ⟨c1, x, by simp, h1, hu⟩
    · obtain ⟨c, y, hy, h3, h4⟩ := mem h2 hu
      exact ⟨c, y, by simp [hy], h3, h4⟩
end Rows

theorem Cells.length {w : World} {O : Nat → Prop} : ∀ {k : Kind} {cs : List Value} {v : k.T}, Cells w O k cs v → cs.length = width k
  | .unit, cs, v, h => by simp [Cells] at h; simp [h, width]
  | .int ik, cs, v, h => by simp [Cells] at h; simp [h, width]
  | .bool, cs, v, h => by simp [Cells] at h; simp [h, width]
  | .str, cs, v, h => by simp [Cells] at h; simp [h, width]
  | .pair a b, cs, v, h => by
    obtain ⟨c1, c2, rfl, h1, h2⟩ := h
    simp [width, h1.length, h2.length]
  | .struct a, cs, v, h => by simpa [width] using Cells.length (k := a) h
  | .slice e, cs, v, h => by obtain ⟨A, cap, rfl, _⟩ := h; simp [width]
  | .arr n e, cs, v, h => by
    obtain ⟨h1, h2⟩ := h
    rw [h2.length (n := width e) (fun c x hc => hc.length), h1, width]
  | .clo g c, cs, v, h => by obtain ⟨caps, rfl, _⟩ := h; simp [width]
  | .ref a, cs, v, h => by obtain ⟨b, off, blk, ty, fr, rfl, _⟩ := h; simp [width]
  | .mpk a c, cs, v, h => by obtain ⟨b, rfl, _⟩ := h; simp [width]
  | .mbx a c, cs, v, h => by obtain ⟨B, b, blk, ty, fr, rfl, _⟩ := h; simp [width]
  | .recB g p c, cs, v, h => by obtain ⟨B, caps, ty, fr, rfl, _⟩ := h; simp [width]
  | .err, cs, v, h => by obtain ⟨u, rfl, _⟩ := h; simp [width]
  | .fnk, cs, v, h => by obtain ⟨u, rfl, _⟩ := h; simp [width]

/-- memory that no one owns is as it was -/
structure Keep (w : World) (O : Nat → Prop) (w' : World) (O' : Nat → Prop) : Prop where
  same : ∀ b, b < w.heap.size → ¬ O b → w'.heap[b]? = w.heap[b]?
  own : ∀ b, b < w.heap.size → O' b → O b

theorem lt_of_heap {w : World} {b : Nat} {x : Obj} (h : w.heap[b]? = some x) : b < w.heap.size := (Array.getElem?_eq_some_iff.1 h).1

theorem Cells.keep {w w' : World} {O O' : Nat → Prop} (hk : Keep w O w' O') : ∀ {k : Kind} {cs : List Value} {v : k.T}, Cells w O k cs v → Cells w' O' k cs v
  | .unit, cs, v, h => h
  | .int ik, cs, v, h => h
  | .bool, cs, v, h => h
  | .str, cs, v, h => h
  | .pair a b, cs, v, h => by
    obtain ⟨c1, c2, rfl, h1, h2⟩ := h
    exact ⟨c1, c2, rfl, h1.keep hk, h2.keep hk⟩
  | .struct a, cs, v, h => Cells.keep (k := a) hk h
  | .slice e, cs, v, h => by
    obtain ⟨A, cap, rfl, hc, h⟩ := h
    refine ⟨A, cap, rfl, hc, h.imp id ?_⟩
    rintro ⟨b, off, blk, ty, fr, rfl, hb, ho, hr⟩
    have hlt := lt_of_heap hb
    exact ⟨b, off, blk, ty, fr, rfl, (hk.same b hlt ho).trans hb, fun h => ho (hk.own b hlt h), hr.imp fun c x hc => hc.keep hk⟩
  | .arr n e, cs, v, h => ⟨h.1, h.2.imp fun c x hc => hc.keep hk⟩
  | .clo g c, cs, v, h => by
    obtain ⟨caps, rfl, h⟩ := h
    exact ⟨caps, rfl, h.keep hk⟩
  | .ref a, cs, v, h => by
    obtain ⟨b, off, blk, ty, fr, rfl, hb, ho, hr⟩ := h
    have hlt := lt_of_heap hb
    exact ⟨b, off, blk, ty, fr, rfl, (hk.same b hlt ho).trans hb, fun h => ho (hk.own b hlt h), hr.keep hk⟩
  | .mpk a c, cs, v, h => by
    obtain ⟨b, rfl, h1, h2, hb, ho⟩ := h
    have hlt := lt_of_heap hb
    exact ⟨b, rfl, h1, h2, (hk.same b hlt ho).trans hb, fun h => ho (hk.own b hlt h)⟩
  | .mbx a c, cs, v, h => by
    obtain ⟨B, b, blk, ty, fr, rfl, hB, h0, hO, h1, h2, hb, ho⟩ := h
    have hlt := lt_of_heap hb
    have hlt2 := lt_of_heap hB
    exact ⟨B, b, blk, ty, fr, rfl, (hk.same B hlt2 hO).trans hB, h0, fun h => hO (hk.own B hlt2 h), h1, h2, (hk.same b hlt ho).trans hb, fun h => ho (hk.own b hlt h)⟩
  | .recB g p c, cs, v, h => by
    obtain ⟨B, caps, ty, fr, rfl, hB, hO, hp, h⟩ := h
    have hlt := lt_of_heap hB
    exact ⟨B, caps, ty, fr, rfl, (hk.same B hlt hO).trans hB, fun h => hO (hk.own B hlt h), hp, Cells.keep (k := c) hk h⟩
  | .err, cs, v, h => h
  | .fnk, cs, v, h => h

theorem Cells.one {w : World} {O : Nat → Prop} : ∀ {k : Kind} {cs : List Value} {v : k.T}, Cells w O k cs v → ∀ u ∈ cs, u.oneCell' = true
  | .unit, cs, v, h => by simp [Cells] at h; simp [h]
  | .int ik, cs, v, h => by simp [Cells] at h; simp [h, Value.oneCell']
  | .bool, cs, v, h => by simp [Cells] at h; simp [h, Value.oneCell']
  | .str, cs, v, h => by simp [Cells] at h; simp [h, Value.oneCell']
  | .pair a b, cs, v, h => by
    obtain ⟨c1, c2, rfl, h1, h2⟩ := h
    intro u hu
    rcases List.mem_append.1 hu with hu | hu
    · exact h1.one u hu
    · exact h2.one u hu
  | .struct a, cs, v, h => Cells.one (k := a) h
  | .slice e, cs, v, h => by obtain ⟨A, cap, rfl, _⟩ := h; simp [Value.oneCell']
  | .arr n e, cs, v, h => by
    intro u hu
    obtain ⟨c, x, _, h3, h4⟩ := h.2.mem hu
    exact h3.one u h4
  | .clo g c, cs, v, h => by obtain ⟨caps, rfl, _⟩ := h; simp [Value.oneCell']
  | .ref a, cs, v, h => by obtain ⟨b, off, blk, ty, fr, rfl, _⟩ := h; simp [Value.oneCell']
  | .mpk a c, cs, v, h => by obtain ⟨b, rfl, _⟩ := h; simp [Value.oneCell']
  | .mbx a c, cs, v, h => by obtain ⟨B, b, blk, ty, fr, rfl, _⟩ := h; simp [Value.oneCell']
  | .recB g p c, cs, v, h => by obtain ⟨B, caps, ty, fr, rfl, _⟩ := h; simp [Value.oneCell']
  | .err, cs, v, h => by
    obtain ⟨u, rfl, ⟨_, rfl⟩ | ⟨_, t, p, rfl⟩⟩ := h <;> simp [Value.oneCell']
  | .fnk, cs, v, h => by
    obtain ⟨u, rfl, rfl | ⟨g, x, y, rfl⟩⟩ := h <;> simp [Value.oneCell']

theorem Rows.det {α : Type} {P Q : List Value → α → Prop} (h : ∀ c c' x, P c x → Q c' x → c = c') : ∀ {cs cs' l}, Rows P cs l → Rows Q cs' l → cs = cs'
  | _, _, [], h1, h2 => by simp [Rows] at h1 h2; rw [h1, h2]
  | _, _, _ :: _, ⟨c1, c2, e, h1, h2⟩, ⟨d1, d2, e', h3, h4⟩ => by rw [e, e', h _ _ _ h1 h3, det h h2 h4]
theorem Cells.det {w w' : World} {O O' : Nat → Prop} : ∀ {k : Kind} {cs cs' : List Value} {v : k.T}, flat k = true → Cells w O k cs v → Cells w' O' k cs' v → cs = cs'
  | .unit, cs, cs', v, _, h, h' => by simp [Cells] at h h'; rw [h, h']
  | .int ik, cs, cs', v, _, h, h' => by simp [Cells] at h h'; rw [h, h']
  | .bool, cs, cs', v, _, h, h' => by simp [Cells] at h h'; rw [h, h']
  | .str, cs, cs', v, _, h, h' => by simp [Cells] at h h'; rw [h, h']
  | .pair a b, cs, cs', v, hf, h, h' => by
    obtain ⟨c1, c2, rfl, h1, h2⟩ := h
    obtain ⟨d1, d2, rfl, h3, h4⟩ := h'
    simp only [flat, Bool.and_eq_true] at hf
    rw [Cells.det hf.1 h1 h3, Cells.det hf.2 h2 h4]
  | .struct a, cs, cs', v, hf, h, h' => Cells.det (k := a) hf h h'
  | .slice e, cs, cs', v, hf, h, h' => by simp [flat] at hf
  | .arr n e, cs, cs', v, hf, h, h' => Rows.det (P := Cells w O e) (Q := Cells w' O' e) (fun c c' x h1 h2 => Cells.det (k := e) hf h1 h2) h.2 h'.2
  | .clo g c, cs, cs', v, hf, h, h' => by simp [flat] at hf
  | .ref a, cs, cs', v, hf, h, h' => by simp [flat] at hf
  | .mpk _ _, cs, cs', v, hf, h, h' => by simp [flat] at hf
  | .mbx _ _, cs, cs', v, hf, h, h' => by simp [flat] at hf
  | .recB _ _ _, cs, cs', v, hf, h, h' => by simp [flat] at hf
  | .err, cs, cs', v, hf, h, h' => by simp [flat] at hf
  | .fnk, cs, cs', v, hf, h, h' => by simp [flat] at hf

def Reg (w : World) (O : Nat → Prop) (k : Kind) (u : Value) (v : k.T) : Prop :=
  if aggB k = true then ∃ cs, u = .agg cs ∧ Cells w O k cs.toList v else u.oneCell' = true ∧ Cells w O k [u] v
theorem Reg.keep {w w' : World} {O O' : Nat → Prop} (hk : Keep w O w' O') {k : Kind} {u : Value} {v : k.T} (h : Reg w O k u v) : Reg w' O' k u v := by
  unfold Reg at *
  by_cases hc : aggB k = true
  · rw [if_pos hc] at *; obtain ⟨cs, rfl, h⟩ := h; exact ⟨cs, rfl, h.keep hk⟩
  · rw [if_neg hc] at *; exact ⟨h.1, h.2.keep hk⟩
theorem Reg.cells {w : World} {O : Nat → Prop} {k : Kind} {u : Value} {v : k.T} (h : Reg w O k u v) : Cells w O k u.cells.toList v := by
  unfold Reg at h
  split at h
  · obtain ⟨cs, rfl, h⟩ := h; exact h
  · obtain ⟨h1, h⟩ := h
    cases u <;> simp [Value.oneCell'] at h1 <;> exact h
end Go.Fm
